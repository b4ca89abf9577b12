/- Walks. -/
import Derived.RangeFuncCalls
import Derived.Sort.CutIn
import Derived.Test.YtjomgckjhcfbgaaGreatY18
import Derived.Test.YtjomgckjhcfbgaaGreatY13
import Derived.Test.YtjomgckjhcfbgaaGreatY22
import Derived.Test.YtjomgckjhcfbgaaGreatY23
import Derived.Test.YtjomgckjhcfbgaaGreatY24
set_option maxRecDepth 100000
set_option maxHeartbeats 64000000
set_option linter.all false
namespace Go.Proofs.YtjomgckjhcfbgaaGreat
open Go.RowKit
open Go.RowKit renaming Below→ab,Hid→am
open _root_ renaming decide_eq_false→ac,Int→ag
open Go.RowKit.Below renaming refl→al
open _root_.Option renaming some→an,none→ap
open _root_.Bool renaming true→aq,false→ar
open Go.Value renaming slice→ax,pointer→aE,bool→a0,agg→a1,int→Z
open Go.Obj renaming cells→a2
open Go.Ending renaming returned→a3
open Go.IntKind renaming i64→U
open Go.Proofs.Tryz
section
open Go.RowKit Go.Maps
attribute [local go_sem] Oper.semAt_some
theorem aa (c:Array Value)(w:World)(d:Addr)(v:Value)(e:c[10]?=an (aE (an d)))(f:w.cell? d=an v):(results Tryz.f8 c).run prog w= .ok v w:=by
 simp[results,go_sem,e,f]
theorem Jd {w d:World}{a b c:Array Value}{e f g:TypeId}(h:((w.alloc (a2 a e)).alloc (a2 b f)).alloc (a2 c g)=d):
  ab w.heap.size w d/\d.heap.size=w.heap.size+3/\d.heap[w.heap.size]?=an (a2 a e (0,0))/\d.heap[w.heap.size+1]?=an (a2 b f (0,0))/\d.heap[w.heap.size+2]?=an (a2 c g (0,0)):=Im h
theorem sI (p:Tmp)(v:Value)(t:Array Value):((#[p]:Array Tmp).zip #[v]).foldl (λt (p,v)=>t.setIfInBounds p v) t=t.setIfInBounds p v:=by simp
theorem pointsEach_calls (m:Mo)(w:World)(f v a4 stop:ag)(hm:m.inn w)(cI:∀g∈m.fs,∀i∈g.c.ins,fO i.d/\fO i.a/\fO i.b/\fO i.f)(hf:fO f)(hv:fO v)(eg:fO a4):
  zP 8 #[a1 m.cells,Z U f,Z U v,Z U a4,Z U stop] w (a0 aq):=by
 obtain⟨N,hN⟩:=zE w.heap.size;obtain⟨S,ca⟩:=zE (((w.alloc (a2 m.cells 25)).alloc (a2 #[Z U stop] 3)).alloc (a2 #[a0 ar] 4));obtain⟨ba,cb,q0,q1,q2⟩:=Jd ca;rw[hN] at ba cb q0 q1 q2;have HS:am (∀W,ab (N+3) S W->W.cell? ⟨N,0,ap⟩=an (ax m.sA m.ss.length m.sC)/\W.cell? ⟨N,1,ap⟩=an (ax m.fA m.fs.length m.fC)/\W.cell? ⟨N+1,0,ap⟩=an (Z U stop)/\W.cell? ⟨N+2,0,ap⟩=an (a0 ar)/\W.frozen? ⟨N+2,0,ap⟩=ar/\m.inn W/\N+3<=W.heap.size):=λW J=>by
  have h0:=(J.block N (by omega)).trans q0;have z:=(J.block (N+1) (by omega)).trans q1;have u:=(J.block (N+2) (by omega)).trans q2;exact⟨zR h0 0 _,zR h0 1 _,zR z 0 _,zR u 0 _,frozen_of_row _ _ _ _ _ u,hm.below (by rw[hN];exact ba.trans (J.mono (by omega))),by have:=J.size;omega⟩
 have HY:am (∀Wx K (M:Nat->Prop),(∀k,M k->N+3<=k)->ab (N+3) S Wx->Ext M (Wx.setCell ⟨N+2,0,ap⟩ (a0 aq)) K->K.cell? ⟨N+2,0,ap⟩=an (a0 aq)/\ab N w K):=by
  intro Wx K M hM hb H;have e8:N+3<=Wx.heap.size:=by have:=hb.size;omega
  have h0:Ext (λk=>N<=k) w S:=Ext.of_below ba;have z:Ext (λk=>N<=k) w (Wx.setCell ⟨N+2,0,ap⟩ (a0 aq)):=(h0.trans (Ext.of_below hb) (λk A=> .inl (by omega))).trans (Ext.set1 _ _ _ _) (λk A=> .inl (by omega));have u:Ext (λk=>N<=k) w K:=z.trans H (λk A=> .inl (by have:=hM k A;omega));obtain⟨_,_,_,k8,_,_,_⟩:=HS.out Wx hb;refine⟨?_,u.below (by omega) (λ_ h=>h)⟩;rw[H.cell (a:=⟨N+2,0,ap⟩) (by rw[World.size_setCell];show N+2<_;omega) (λh=>by have:=hM _ h;simp only at this;omega)]
  first|exact World.cell?_setCell_same _ k8|exact World.cell?_setCell_same _ _ k8|exact World.cell?_setCell_same _ _ _ k8
 have cd:am (∀W,ab (N+3) S W->Calls prog 29 #[] W λe K=>e= a3 (a0 aq)/\ab (N+3) S K):=λW J=>(vO W).mono λe K ⟨z,u⟩=>⟨z,J.trans (u.mono (by have:=J.size;omega))⟩
 have eh:am (∀W,ab (N+3) S W->Calls prog 27 #[a1 #[ax m.sA m.ss.length m.sC,ax m.fA m.fs.length m.fC]] W λe K=>∃b:Bool,e= a3 (a0 b)/\(b=aq->m.short12)/\ab (N+3) S K):=λW J=>by
  have h:=yH W m (HS.out W J).2.2.2.2.2.1;exact h.mono λe K ⟨b,z,u,I⟩=>⟨b,z,u,J.trans (I.mono (by have:=J.size;omega))⟩
 have ei:=zH cI;have ce:=ca;simp only[Mo.cells] at ce;have cJ:=zH ce;have ej:=zH cb;unfold zP;rw[hN];simp only[Mo.cells];clear hm ba q0 q1 q2 ca ce cI cb
 (refine jD func8 rfl ?_
  simp only[ntmps8,List.size_toArray,List.length_cons,List.length_nil,Nat.reduceAdd,Nat.reduceSub,Array.replicate_succ,
   Array.replicate_zero,List.push_toArray,List.append_toArray,List.nil_append,List.cons_append])
 go_upto_region 1 with(fail)
 rw[cJ.out];clear hN cJ
 go_upto_region 3 with(go_at_call 29;refine(cd.out S (al _ _)).mono ?_;rintro e w2 ⟨rfl,cf⟩)
 obtain⟨k0,k1,V,X,Y,_,O⟩:=HS.out w2 cf;have el:=zH (eh.out w2 cf);clear cf
 go_wp2_with fail
 go_at_call 27;refine el.out.mono ?_;rintro e w3 ⟨b,rfl,cL,cM⟩;have cN:=zH cL;have bk:=zH cM;clear k0 k1 V X Y O cL cM;cases b with
 |false=>
  go_wp2_with fail
  go_at_call 29;refine(cd.out w3 bk.out).mono ?_;rintro e w5 ⟨rfl,a6⟩;obtain⟨_,_,_,X,Y,_,_⟩:=HS.out w5 a6;have bc:=zH a6;clear a6;go_wp2;refine⟨[],rfl,by simp,by simp,a0 aq,λK H=> ?_⟩;obtain⟨z,u⟩:=HY.out w5 K _ (λk A=>by simp at A) bc.out H;exact⟨aa _ _ _ _ rfl z,rfl,u⟩
 |true=>
 have cg:=cN.out rfl;obtain⟨k0,k1,V,X,Y,ch,O⟩:=HS.out w3 bk.out;have cP:=mJ ch cg.2.2;have a7:=zH (l8 m w3 cP);have ci:=zH ch;have cj:=zH cg;obtain⟨E,hE⟩:=zE (bf m);rw[hE] at a7;simp only[Mo.cells] at a7;clear cg cP ch cN;have ck:am (∀W,ab w3.heap.size w3 W->ab (N+3) S W):=λW J=>bk.out.trans (J.mono (by have:=bk.out.size;have:=ej.out;omega))
 by_cases cQ:E=0
 rotate_left
 ·have e0:(E != 0)=aq:=by rw[bne_iff_ne];exact cQ
  clear hE
  go_wp2_with fail
  go_at_call 13;refine a7.out.mono ?_;rintro e w4 ⟨rfl,bd⟩;have bl:=zH (ck.out w4 bd);clear bd k0 k1 V X Y O
  go_wp2_with fail
  go_at_call 29;refine(cd.out w4 bl.out).mono ?_;rintro e w5 ⟨rfl,a6⟩;obtain⟨_,_,_,X,Y,_,_⟩:=HS.out w5 a6;have bc:=zH a6;clear a6;go_wp2;refine⟨[],rfl,by simp,by simp,a0 aq,λK H=> ?_⟩;obtain⟨z,u⟩:=HY.out w5 K _ (λk A=>by simp at A) bc.out H;exact⟨aa _ _ _ _ rfl z,rfl,u⟩
 subst cQ;have e0:((0:ag) != 0)=ar:=rfl;have cl:=zH hE;have bm:mF w3 m:=EY ci.out cj.out ei.out (λg hg i hi em y hy=>by
  obtain⟨j,hj⟩:=List.getElem?_of_mem hg;obtain⟨k,A⟩:=List.getElem?_of_mem hi;have z:=Gb hE hj A em y hy;have u:=(mJ ci.out cj.out.2.2).vl g hg;unfold fO;omega)
 have br:am (∀W,ab w3.heap.size w3 W->mF W m):=λW J=>⟨dR.belowP bm.ri J,bm.wf,bm.ni,bm.nf⟩
 clear hE bm
 go_upto_region 5 with(go_at_call 13;refine a7.out.mono ?_;rintro e w4 ⟨rfl,bd⟩;have bs:=zH bd;have bl:=zH (ck.out w4 bd);clear bd)
 clear k0 k1 V X Y O e0;obtain⟨k0,k1,V,X,Y,_,O⟩:=HS.out w4 bl.out;have cR:=zH (lw m w4 (br.out w4 bs.out) cl.out);clear a7 ck
 go_upto_region 6 with(go_at_call 30;refine cR.out.mono ?_;rintro e w5 ⟨Q0,p,tg,s,rfl,cS,cT,hP,a6⟩;have cm:=zH a6;have en:=zH cS;have cU:=zH cT;have HP:=zH hP;clear cS cT hP a6)
 have bc:am (ab (N+3) S w5):=bl.out.trans (cm.out.mono O);have cV:am (ab w3.heap.size w3 w5):=bs.out.trans (cm.out.mono bs.out.size);clear k0 k1 V X Y O cR;obtain⟨k0,k1,V,X,Y,_,O⟩:=HS.out w5 bc.out;have cn:=zH (AB m w5 (br.out w5 cV.out) cl.out);simp only[Mo.cells] at cn;obtain⟨T,hT⟩:=zE (Q0+3);rw[hT] at HP⊢
 go_upto_region 7 with(go_at_call 37;refine cn.out.mono ?_;rintro e w6 ⟨n,S0,B,sv,vv,rv,gv,vt,gt,rl,x,e9,rfl,eo,hM,cW,H,a8⟩;obtain⟨b0,y0,ep⟩:=ai hM.sites;obtain⟨b1,y1,e1⟩:=ai hM.vars.own;obtain⟨b2,y2,e2⟩:=ai hM.res.own;obtain⟨b3,y3,e3⟩:=ai hM.flds.own;subst ep e1 e2 e3;have HM:=zH hM;have bt:=zH cW;have HX:=zH H;have cX:=zH a8;clear eo hM cW H a8)
 have cY:n<=400:=by
  have z:=bt.out.ns;have u:=dN (l:=m.xi);have I:=(br.out w3 (al _ _)).ni;omega
 obtain⟨S6,co⟩:=zE w6.heap.size;obtain⟨G,bw⟩:=zE (w6.alloc (a2 #[ax b0 (aj m.xi).length y0,ax b1 vt.length y1,ax b2 rl.length y2,ax b3 gt.length y3] 99));have cp:=iq bw;have cq:G.heap[S6]?=an (a2 #[ax b0 (aj m.xi).length y0,ax b1 vt.length y1,ax b2 rl.length y2,ax b3 gt.length y3] 99 (0,0)):=by rw[<-bw,<-co];exact alloc_at _ _
 obtain⟨fa,c0⟩:=HM.out.copy12 cp cq (by omega);have cr:ab w5.heap.size w5 G:=cX.out.trans (cp.mono cX.out.size);have cs:am (nu G m T S6 n):=⟨⟨_,_,_,_,_,_,_,HP.out.grow cr,cU.out⟩,⟨_,_,_,_,_,_,_,_,_,_,c0,bt.out,HX.out⟩,cl.out,cY,bt.out.ns⟩
 have bx:am (ab (N+3) S G):=bc.out.trans (cr.mono O);have fb:=ae cq;obtain⟨l,c4,c5,c6,c7⟩:=cs.out.var f v hf hv;have eq:=zH c5;have c8:=zH c6;have er:=zH c7;have ct:am (∀W,ab G.heap.size G W->zP 33 #[aE (an ⟨T,0,ap⟩),Z U f,Z U v,Z U a4] W (a0 ((l.map Int.ofNat).any (·==a4)))):=λW J=>(cs.out.grow J).has f v a4 hf hv eg l c8.out;have es:am (∀W,ab G.heap.size G W->Calls prog 39 #[aE (an ⟨T,0,ap⟩),Z U f,Z U v] W (Gj W l)):=λW J=>(cs.out.grow J).each f v hf hv l eq.out c8.out;obtain⟨o,bz⟩:=zE (l.map Int.ofNat);have cv:o.length=l.length:=by rw[<-bz,List.length_map]
 rw[bz] at ct;have da:=zH bz;have db:=zH cv;have cw:am (o.length<=400):=by unfold am;rw[cv];exact c4
 have et:=zH bw;have ev:=zH co;clear bw co cp cq c0 cr c5 c6 c7 HP cU HM bt HX bc cV cm bs bl bk en br cj ci cn cY c4 cv bz k0 k1 V X Y O hT;(try rw[ev.out]);rw[et.out];obtain⟨k0,k1,V,X,Y,_,O⟩:=HS.out G bx.out
 go_wp2_with fail
 go_at_call 38;refine(er.out G (al _ _)).2.mono ?_;rintro e w7 ⟨B7,ao,a5,rfl,cx,dc⟩;rw[<-db.out,da.out] at cx;rw[<-db.out];have bA:=zH cx;have cy:=zH dc;obtain⟨Q,hQ⟩:=zE w7.heap.size;obtain⟨W8,be⟩:=zE ((w7.alloc (a2 #[ax ao o.length a5] 35)).alloc (a2 #[Z U 0] 3));have cz:=Ir be;have dd:=yP be hQ;have de:=AO be hQ;have bC:W8.heap.size=Q+2:=by rw[<-be];simp[hQ]
 have bD:am (ab G.heap.size G W8):=cy.out.trans (cz.mono cy.out.size);have df:=zH cz;have fc:am (ab (N+3) S W8):=bx.out.trans (bD.out.mono O);have dg:=zH dd;have ew:=zH de;have ex:=zH be;have bR:=zH bC;have dj:am (N+3<=G.heap.size/\G.heap.size<=Q):=⟨O,by rw[<-hQ];exact cy.out.size⟩
 clear k0 k1 V X Y O cx dc cz dd de be
 go_upto_region 9 with(fail)
 rw[ex.out];clear bC
 go_wp2_with fail
 go_at_call 39;refine(es.out W8 bD.out).mono ?_;rintro e W9 ⟨D9,B9,a9,c9,rfl,ey,b4,ez,b5,b6⟩;rw[da.out] at b4 b5;have bC:=bR.out;have dk:am (ab G.heap.size G W9):=bD.out.trans (b6.mono bD.out.size);have bn:=zH b6;have eA:=zH (Gi D9 c9 B9 a9 o W9 b4 b5 (by have:=cw.out;omega));have dl:am (∀k,yK D9 a9 k->k<W9.heap.size/\k≠Q+1):=λk A=>by
  rcases A with rfl|⟨a,rfl,rfl⟩
  ·exact⟨ae b4,by omega⟩
  ·have:=b5.lt a.block rfl
   exact⟨this.2,by omega⟩
 have b7:Q+2<=W9.heap.size:=by have:=b6.size;omega
 have dn:=zH b7;clear b4 b5 b6 ey ez bC b7
 go_wp2_with fail
 refine DT rfl func125 (by rfl) rfl eA.out ?hbel ?hRd (λ_=>rfl)
  (λr C W=>C=(λk=>k=Q+1)/\W.heap[Q+1]?=an (a2 #[Z U (r.length:ag)] 3 (0,0))/\Ext (λk=>k=Q+1) W9 W/\∀q:Nat,1<=q->q<=r.length->(q:ag)≠stop)
  (λr C W=>C=(λk=>k=Q+1)/\W.heap[Q+1]?=an (a2 #[Z U (r.length:ag)] 3 (0,0))/\Ext (λk=>k=Q+1) W9 W/\1<=r.length/\(r.length:ag)=stop) ?hI ?hIC ?hIx (λk=>k=Q+1) ?h0 ?hround ?hout
 case hbel=>exact al _ _
 case hRd=>exact λk h=>(dl.out k h).1
 case hI=>
  rintro r C W L ⟨rfl,z,u,I⟩ H;exact⟨rfl,H.heap z (λh=>h.2 rfl),u.trans H (λj hj=> .inr hj.1),I⟩
 case hIx=>
  rintro r C W L ⟨rfl,z,u,I⟩ H;exact⟨rfl,H.heap z (λh=>h.2 rfl),u.trans H (λj hj=> .inr hj.1),I⟩
 case hIC=>
  rintro r C W ⟨rfl,z,u,I⟩ k rfl;exact⟨ae z,λh=>(dl.out _ h).2 rfl⟩
 case h0=>exact⟨rfl,(bn.out.block (Q+1) (by have:=bR.out;omega)).trans ew.out,Ext.refl _ _,λq z u=>absurd (Nat.le_trans z u) (by simp)⟩
 case hround=>
  rintro l0 r x C W hl ⟨rfl,z,u,I⟩ bh;have fd:r.length<o.length:=by have:=bh.length_le;simp at this;omega
  have dp:o[r.length]?=an x:=by
   obtain⟨t,ht⟩:=bh;rw[<-ht];simp
  unfold BN;rw[sI];simp only[List.setIfInBounds_toArray,List.set_cons_zero,List.set_cons_succ];have HI:=zH (And.intro z (And.intro u I));clear z u I bh;obtain⟨F,hF⟩:∃F,F=Fence.wide.inRound l0:=⟨_,rfl⟩
  have ff:F.round=an l0:=by rw[hF];rfl
  have fg:∀f,F.fn f:=λf=>by rw[hF];trivial
  have fh:F.depth=ap:=by rw[hF];rfl
  rw[<-hF];clear hF
  gi_wp2
  refine⟨_,λk A=> .inl A,⟨rfl,HI.out.1,HI.out.2.1,HI.out.2.2⟩,Ext.refl _ _, ?_⟩;rintro P ⟨_,g1,g2,g3⟩ eC;have b7:=dn.out;have eE:=dj.out;have a8:ab G.heap.size G P:=dk.out.trans (g2.below (by omega) (λk A=>by omega));have fi:P.cell? ⟨Q+1,0,ap⟩=an (Z U (r.length:ag)):=zR g1 0 _;have f12:P.frozen? ⟨Q+1,0,ap⟩=ar:=frozen_of_row _ _ _ _ _ g1;have bo:P.heap[Q]?=an (a2 #[ax ao o.length a5] 35 (0,0)):=g2.heap ((bn.out.block Q (by have:=bR.out;omega)).trans dg.out) (by omega);have fj:=zR bo 0 (ax ao o.length a5);have h7:(ax ao o.length a5).ownBlock≠an (Q+1):=λe=>by have:=(bA.out.lt _ e).2;omega
  have bp:aT P B7 (ax ao o.length a5) o:=by
   have h9:aT W9 B7 (ax ao o.length a5) o:=ownsRow_below (ownsRow_below bA.out df.out) bn.out;exact af h9 g2 (λk A e=>h7 (by rw[A,e]))
  obtain⟨gr,rfl,_,eI,bq⟩:=bp.shape (by omega);have d1:P.cell? ⟨gr,r.length,ap⟩=an (Z U x):=bq _ _ dp;have dq:P.cell? ⟨N+1,0,ap⟩=an (Z U stop):=(HS.out P (bx.out.trans (a8.mono (by omega)))).2.2.1;have eJ:=cw.out;have t0:decide ((o.length:ag)<=(r.length:ag))=ar:=ac (by omega);have t1:decide (o.length<=r.length)=ar:=ac (by omega);have t2:(r.length:ag)<(o.length:ag):=by omega
  have t3:(x != x)=ar:=by simp
  have dr:Q+1<P.heap.size:=ae g1;have cA:N+1<P.heap.size:=by omega
  have eK:Q+1≠N+1:=by omega
  have b8:Ext (·=Q+1) P (P.setCell ⟨Q+1,0,ap⟩ (Z U ((r.length:ag)+1))):=Ext.set1 _ _ _ _;have cC:(P.setCell ⟨Q+1,0,ap⟩ (Z U ((r.length:ag)+1))).heap[Q+1]?=an (a2 #[Z U ((r.length:ag)+1)] 3 (0,0)):=by
   rw[heap_setCell_same _ _ _ _ _ _ g1];rfl
  have fk:(P.setCell ⟨Q+1,0,ap⟩ (Z U ((r.length:ag)+1))).cell? ⟨N+1,0,ap⟩=an (Z U stop):=by
   rw[b8.cell (a:=⟨N+1,0,ap⟩) cA (λe=>eK e.symm)];exact dq
  have fl:(P.setCell ⟨Q+1,0,ap⟩ (Z U ((r.length:ag)+1))).cell? ⟨Q+1,0,ap⟩=an (Z U ((r.length:ag)+1)):=zR cC 0 _;have fm:IntKind.i64.wrap ((r.length:ag)+1)=(r.length:ag)+1:=by rw[IntKind.wrap_i64];omega
  have HG:=zH (And.intro cC (And.intro (g2.trans b8 (λj hj=> .inl hj)) b8));have eL:=zH g3;have cD:((r++[x]).length:ag)=(r.length:ag)+1:=by simp
  clear g1 g2 g3 eC a8 bo h7 bp bq dp cC b8 dq;obtain⟨sb,ds⟩:=zE ((r.length:ag)+1==stop);cases sb with
  |true=>
   have cE:am ((r.length:ag)+1=stop):=by unfold am;simpa using ds
   gi_wp2
   refine⟨_,λk A=> .inl A,⟨rfl,rfl, ?_,HG.out.2.1,by simp,by rw[cD];exact cE.out⟩,HG.out.2.2⟩;rw[cD];exact HG.out.1
  |false=>
   have cE:am ((r.length:ag)+1≠stop):=by unfold am;simpa using ds
   gi_wp2
   refine⟨_,λk A=> .inl A,⟨rfl, ?_,HG.out.2.1,λq z u=> ?_⟩,HG.out.2.2⟩
   ·rw[cD];exact HG.out.1
   ·rw[List.length_append] at u
    simp at u;rcases Nat.lt_or_ge r.length q with I|I
    ·have:q=r.length+1:=by omega
     subst this;push_cast;exact cE.out
    ·exact eL.out q z I
 case hout=>
  rintro D r C2 W hD fo bh dt cF;have hG:W.heap[Q+1]?=an (a2 #[Z U (r.length:ag)] 3 (0,0))/\Ext (λk=>k=Q+1) W9 W/\((if 0<stop/\stop<(o.length:ag) then stop else(o.length:ag))=(r.length:ag)):=by
   rcases dt with⟨rfl,rfl,z,u,I⟩|⟨rfl,z,u,I,h4⟩
   ·refine⟨z,u, ?_⟩
    rw[if_neg];rintro⟨q1,q2⟩;exact I stop.toNat (by omega) (by omega) (by omega)
   ·refine⟨z,u, ?_⟩
    have:=bh.length_le
    split<;>omega
  clear dt;obtain⟨z,u,I⟩:=hG;have b7:=dn.out;have eE:=dj.out;have du:ab G.heap.size G W:=dk.out.trans (u.below (by omega) (λk A=>by omega));have eM:=ae cF;have bo:W.heap[Q]?=an (a2 #[ax ao o.length a5] 35 (0,0)):=u.heap ((bn.out.block Q (by have:=bR.out;omega)).trans dg.out) (by omega);have fp:=ae z;have h7:(ax ao o.length a5).ownBlock≠an (Q+1):=λe=>by have:=(bA.out.lt _ e).2;omega
  have bp:aT W B7 (ax ao o.length a5) o:=by
   have h9:aT W9 B7 (ax ao o.length a5) o:=ownsRow_below (ownsRow_below bA.out df.out) bn.out;exact af h9 u (λk A e=>h7 (by rw[A,e]))
  have eN:=zH bp;have cG:=zH du;have dv:am (∀L,ab W.heap.size W L->L.cell? ⟨N+1,0,ap⟩=an (Z U stop)/\L.cell? ⟨Q,0,ap⟩=an (ax ao o.length a5)/\L.cell? ⟨Q+1,0,ap⟩=an (Z U (r.length:ag))/\L.cell? ⟨N+2,0,ap⟩=an (a0 ar)/\L.frozen? ⟨N+2,0,ap⟩=ar/\ab G.heap.size G L/\ab (N+3) S L/\(L.setCell ⟨N+2,0,ap⟩ (a0 aq)).heap[D]?=an (.deferred (an []))/\Q+1<L.heap.size/\N+2<L.heap.size):=by
   intro L hb;have a8:=cG.out.trans (hb.mono cG.out.size);have ba:ab (N+3) S L:=bx.out.trans (a8.mono (by omega));obtain⟨_,_,V,X,Y,_,O⟩:=HS.out L ba;refine⟨V,zR ((hb.block Q (by omega)).trans bo) 0 _,zR ((hb.block (Q+1) (by omega)).trans z) 0 _,X,Y,a8,ba, ?_,by have:=hb.size;omega,by omega⟩;rw[heap_setCell_other _ _ _ _ (by show D≠N+2;omega),hb.block D eM];exact cF
  have cH:=zH I;have eR:am (N+3<=D):=by unfold am;omega
  clear z u I du bo cF bh h7 bp;obtain⟨V,kq,kn,_,_,_,_,_,dr,cA⟩:=dv.out W (al _ _);have dy:am (0<stop->stop<(o.length:ag)->stop=(r.length:ag)):=λc1 c2=>by have:=cH.out;rwa [if_pos ⟨c1,c2⟩] at this
  have dD:am (¬(0<stop/\stop<(o.length:ag))->(o.length:ag)=(r.length:ag)):=λc1=>by have:=cH.out;rwa [if_neg c1] at this
  go_upto_region 16 with(fail)
  obtain⟨qq,dS⟩:=zE (decide (0<stop/\stop<(o.length:ag)));have bj:=zH dS;clear dS
  go_cut [71] from 65 to 72 (λeS wc=>eS= a0 qq/\wc=W)
  case first=>
   by_cases c1:0<stop
   ·by_cases c2:stop<(o.length:ag)
    ·have HC:am (0<stop/\stop<(o.length:ag)):=⟨c1,c2⟩
     go_wp2
     go_meet
     case rel=>exact⟨by rw[<-bj.out,decide_eq_true HC.out],rfl⟩
    ·have HC:am (¬(0<stop/\stop<(o.length:ag))):=λh=>c2 h.2
     have c3:decide (stop<(o.length:ag))=ar:=ac c2;go_wp2
     go_meet
     case rel=>exact⟨by rw[<-bj.out,ac HC.out],rfl⟩
   ·have HC:am (¬(0<stop/\stop<(o.length:ag))):=λh=>c1 h.1
    have c3:decide (0<stop)=ar:=ac c1;go_wp2
    go_meet
    case rel=>exact⟨by rw[<-bj.out,ac HC.out],rfl⟩
  case rest=>
  obtain⟨rfl,rfl⟩:=hcut
  go_upto_if 71 with(fail)
  go_cut [17] from 72 to 73 (λeV wx=>eV= Z U (r.length:ag)/\wx=wc)
  case first=>
   cases qq with
   |true=>
    have HC:am (0<stop/\stop<(o.length:ag)):=zH (of_decide_eq_true (p:=0<stop/\stop<(o.length:ag)) bj.out);go_wp2
    go_meet
    case rel=>exact⟨by rw[dy.out HC.out.1 HC.out.2],rfl⟩
   |false=>
    have HC:am (¬(0<stop/\stop<(o.length:ag))):=zH (of_decide_eq_false (p:=0<stop/\stop<(o.length:ag)) bj.out);go_wp2
    go_meet
    case rel=>exact⟨by rw[dD.out HC.out],rfl⟩
  case rest=>
  obtain⟨rfl,rfl⟩:=hcut;clear dy dD bj cH;obtain⟨R,hR⟩:=zE (o.any (·==a4));rw[hR] at ct;have HR:=zH hR;clear hR
  go_upto_region 20 with(fail)
  go_loopw [18,19] (λb c wr=>∃j:Nat,j<=o.length/\c= Z U (j:ag)/\b= a0 ((o.take j).any (·==a4))/\wr=wc) (λ_ c _=>o.length-(intOf c).toNat)
  case atStart=>exact⟨0,Nat.zero_le _,rfl,by simp,rfl⟩
  case round=>
   obtain⟨j,hj,rfl,rfl,rfl⟩:=hrel;have eJ:=cw.out
   by_cases eW:j<o.length
   ·obtain⟨x,H⟩:∃x,o[j]?=an x:=⟨_,List.getElem?_eq_getElem eW⟩
    have e4:(j:ag)<(o.length:ag):=by omega
    obtain⟨gr,rfl,_,eI,bq⟩:=eN.out.shape (by omega);have d1:=bq _ _ H;have b9:am ((o.take (j+1)).any (·==a4)=((o.take j).any (·==a4)||(x==a4))):=by
     unfold am;rw[List.take_add_one,H,Option.toList_some,List.any_append];simp
    obtain⟨bb,dT⟩:=zE ((o.take j).any (·==a4));rw[dT] at b9⊢;obtain⟨cc,e5⟩:=zE (x==a4);rw[e5] at b9;clear bq H dT;cases bb with
    |true=>
     go_wp2;go_roundw
     case rel=>exact⟨j+1,by omega,by go_num,by rw[b9.out];rfl,trivial⟩
     case measure=>simp[intOf];omega
    |false=>
     go_wp2;go_roundw
     case rel=>exact⟨j+1,by omega,by go_num,by rw[b9.out];rfl,trivial⟩
     case measure=>simp[intOf];omega
   ·have e6:j=o.length:=by omega
    subst e6;have e4:¬(o.length:ag)<(o.length:ag):=by omega
    rw[List.take_length,HR.out];have tn:((r.length:ag)==(r.length:ag))=aq:=beq_self_eq_true _;have tR:(R==R)=aq:=by cases R<;>rfl
    go_wp2_with fail
    go_at_call 33;refine(ct.out _ cG.out).mono ?_;rintro e e7 ⟨rfl,ea⟩;have eb:=zH ea;clear ea V kq kn dr cA
    go_wp2_with fail
    go_at_call 29;refine(vO e7).mono ?_;rintro e ec ⟨rfl,ee⟩;have ef:=eb.out.trans (ee.mono eb.out.size);obtain⟨_,_,_,r1,r2,_,r3,r4,_,r5⟩:=dv.out ec ef;have a7:=zH (And.intro r3 r4);clear ee ef r3 r4;go_wp2;refine⟨[D],rfl,by simp,by intro b hb;simp at hb;subst hb;exact a7.out.2,a0 aq,λK H=> ?_⟩;obtain⟨I,h4⟩:=HY.out ec K (λk=>k=D) (λk A=>by have:=eR.out;omega) a7.out.1 (H.mono (λk A=>by simpa using A));exact⟨aa _ _ _ _ rfl I,rfl,h4⟩
end
theorem bu {a b:Bool}(h:a=aq)(k:b=aq):(a&&b)=aq:=by rw[h,k];rfl
theorem Ja:(laidOutB Tryz.pinned.checked.prog)=aq:=by kernel_rfl
theorem Jb:(mapsRowed Tryz.pinned.checked.prog)=aq:=by kernel_rfl
theorem Jc:((Rows.pointsEachRow.inPlace==Tryz.pinned.checked.prog.inPlace 8))=aq:=by kernel_rfl
theorem Ba:((Rows.pointsEachRow.unfollowed==Tryz.pinned.checked.prog.unfollowed 8))=aq:=by kernel_rfl
theorem IZ:((Rows.pointsEachRow.recurses==Tryz.pinned.checked.prog.recurses 8))=aq:=by kernel_rfl
theorem I4:((Rows.pointsEachRow.named==Tryz.pinned.checked.prog.varsNamed 8))=aq:=by kernel_rfl
theorem I5:((Rows.pointsEachRow.loops==(Tryz.f8.params.toList++Rows.pointsEachSpec.plain.varTypes Tryz.pinned.checked.prog).any (Tryz.pinned.checked.prog.loopsFrom ·)))=aq:=by kernel_rfl
theorem I6:(Tryz.pinned.checked.prog.stopsHeard)=aq:=by kernel_rfl
theorem I7:(Tryz.pinned.checked.prog.mayEnter)=aq:=by kernel_rfl
theorem I8:((Rows.pointsEachRow.lifted==Tryz.pinned.checked.prog.liftsFinal))=aq:=by kernel_rfl
theorem I9:((Tryz.pinned.checked.prog.make==an Rows.pointsEachRow.make))=aq:=by kernel_rfl
theorem pointsEach_closed:joinedFacts Tryz.pinned.checked.prog 8 Tryz.f8 Rows.pointsEachSpec Rows.pointsEachRow=aq:=by
 unfold joinedFacts;exact bu (bu (bu (bu (bu (bu (bu (bu (bu (bu (bu (bu (bu (bu (bu (bu (bu (bu (bu (bu (bu (bu (bu (bu (bu (bu (bu (bu (bu (bu (bu (by kernel_rfl) Ja) Jb) (by kernel_rfl)) (by kernel_rfl)) (by kernel_rfl)) (by kernel_rfl)) (by kernel_rfl)) (by kernel_rfl)) Jc) Ba) IZ) I4) (by kernel_rfl)) (by kernel_rfl)) (by kernel_rfl)) I5) (by kernel_rfl)) (by kernel_rfl)) (by kernel_rfl)) (by kernel_rfl)) (by kernel_rfl)) (by kernel_rfl)) (by kernel_rfl)) I6) I7) I8) I9) (by kernel_rfl)) (by kernel_rfl)) (by kernel_rfl)) (by kernel_rfl)
end Go.Proofs.YtjomgckjhcfbgaaGreat
