/- Walks. -/
import Derived.Deep.WholeRow
import Derived.Maps.OwnOps
import Derived.Maps.Views
import Derived.Laws.OwnMore
import Derived.Test.YtjomgckjhcfbgaaGreatV8
set_option maxRecDepth 100000
set_option maxHeartbeats 64000000
set_option linter.all false
namespace Go.Proofs.YtjomgckjhcfbgaaGreat
open Go.RowKit
open Go.Proofs.Tryz renaming prog→ac,underlying184→cj,underlying42→cT,ntmps189→dc,func189→dp,underlying4→fh,ntmps97→jn,func97→ke,underlying9→kA,underlying223→ms
open _root_.List renaming setIfInBounds_toArray→am,set_cons_zero→aE,set_cons_succ→bb,getElem_cons_zero→br,getElem_cons_succ→bx,getElem?_eq_some_iff→ca,getElem_toArray→cd,getElem?_eq_getElem→ce,mem_singleton→co,mem_append→cw,mem_of_getElem?→cA,eq_nil_of_length_eq_zero→db,take_length→dl,mem_cons→eR,all_eq_true→gS,nodup_append→im,getElem?_take→m5,getElem?_eq_none→na
open Go.RowKit.Below renaming refl→an,mono→lr
open _root_ renaming ByteArray→ap,List→bh,Nat→bw,Int→ct,if_neg→cy,Array→cC,beq_eq_false_iff_ne→cL,if_pos→cQ,Option→dr,decide_eq_false→er,absurd→gC,Bool→iv,decide_eq_true→kh,of_decide_eq_true→lO
open _root_.Array renaming getElem?_eq_some_iff→aw,all_toList→gi
open Go.RowKit renaming Below→bj,Hid→cr
open _root_.Nat renaming le_refl→bl,zero_add→cJ,zero_le→da
open Go renaming Value→bo,wpList_load_row→cc,run_storeCells_new→cf,cell_of_row→ci,storeCells→cM,maxLen→cX,Calls→et,wpQuiet_nil→eC,TypeId→eJ,beq_toListBytes→fR,Oper→fY,wpAnyH_ready→gd,yielded→gh,Program→gA,plainElem→ii,info_parts→iu,plainElem_bool→mz
open Go.Value renaming oneCell'→bp,string→dj,int→dv,string→oe,slice→ot,pointer→ox,bool→oy,agg→oA,int→Z
open Go.Act renaming put→cE
open Go.Region renaming ready→cG,wanted→cU,noSelect→el,Mode→ey,free→gE
open Go.Addr renaming add_lit→cI
open Go.AllReadyH renaming cons→ei,nil→eS
open Go.Instr renaming lookup→ew,mapUpdate→kf
open Go.Value.slice renaming injEq→ez
open _root_.Int renaming toNat_natCast→eN
open Go.Op renaming equalIn→js
open Go.ByteArray renaming toList_eq→ld
open _root_.Prod.mk renaming injEq→lR
open Go.WideAt renaming IsKeyLit→mb
open Go.WideMaps renaming keyOf_string_mk→np
open _root_.Option renaming some→oa,none→ob
open _root_.Bool renaming true→oc,false→od
open Go.Obj renaming cells→oB
open Go.Ending renaming returned→oE
open Go.IntKind renaming i64→U
open Tryz
theorem zY (m:Mo)(g:Fn)(i:Ins)(w:World)(u:i.op=9)(h:bM w m g i):
  zP 189 #[oA (jg m g),oA i.cells] w (Z U (ak m g.vs i)):=by
 have y:cr (ak m g.vs i=dS ((aA g.vs i.a).1&&aA g.vs i.a==aA g.vs i.d) 7):=by
  unfold cr ak;rw[u];rfl
 obtain⟨R,hR⟩:=zE (ak m g.vs i);rw[hR] at y⊢;clear hR;have oY:=zH h;obtain⟨N,b,hN,pb,pc,oT,⟨i0,i1,i2,i3,i4,i6⟩,A,pd,D,G,pf,HT,HD,HA,HB⟩:=aZ u h;clear h u;obtain⟨⟨j,J⟩,o⟩:∃t,aA g.vs i.a=t:=⟨_,rfl⟩
 obtain⟨⟨K,Y⟩,q⟩:∃t,aA g.vs i.d=t:=⟨_,rfl⟩
 have ph:(aA g.vs i.a).1=j:=by rw[o]
 have pi:(aA g.vs i.a).2=J:=by rw[o]
 have pj:(aA g.vs i.d).1=K:=by rw[q]
 have pk:(aA g.vs i.d).2=Y:=by rw[q]
 have HV:cr (∀v,v=i.a\/v=i.d->isVar g.vs.length v=oc):=λv h=>by rcases h with rfl|rfl;exact HA.out rfl;exact HD.out rfl
 have oR:cr (∀(p:BW b)(v:ct),isVar g.vs.length v=oc->zP 188 #[oA (jg m g),Z U v] p.w (oA #[oy (aA g.vs v).1,oe (aA g.vs v).2])):=λp v hv=>HT.out p.w v (by rw[A.out];exact D.out.trans (p.h.mono (by omega))) hv;unfold jg at oR;obtain⟨d,oS⟩:=zE (((j,J):Ty)==(K,Y));have pl:∀w,(js 10000 32 (oA #[oy j,oe J]) (oA #[oy K,oe Y])).run ac w= .ok d w:=λw=>by rw[il,oS]
 have oX:cr (R=dS (j&&d) 7):=by unfold cr;rw[y.out,o,q,oS]
 have pm:=gT;have f:cr (∀p:BW b,fO p.w N m g):=λp=>fO.of ((p.h.block N (by omega)).trans G.out);have k0:∀p:BW b,p.w.cell? ⟨N,0,ob⟩=oa (ot m.sA m.ss.length m.sC):=λp=>(f.out p).1;have k1:∀p:BW b,p.w.cell? ⟨N,1,ob⟩=oa (ot m.fA m.fs.length m.fC):=λp=>(f.out p).2.1;have k2:∀p:BW b,p.w.cell? ⟨N,2,ob⟩=oa (oe g.c.nm):=λp=>(f.out p).2.2.1;have k3:∀p:BW b,p.w.cell? ⟨N,3,ob⟩=oa (Z U g.c.par):=λp=>(f.out p).2.2.2.1;have k4:∀p:BW b,p.w.cell? ⟨N,4,ob⟩=oa (ot g.c.varsA g.c.nvars g.c.varsC):=λp=>(f.out p).2.2.2.2.1;have k5:∀p:BW b,p.w.cell? ⟨N,5,ob⟩=oa (oy g.c.rp):=λp=>(f.out p).2.2.2.2.2.1;have k6:∀p:BW b,p.w.cell? ⟨N,6,ob⟩=oa (oe g.c.rto):=λp=>(f.out p).2.2.2.2.2.2.1;have k7:∀p:BW b,p.w.cell? ⟨N,7,ob⟩=oa (Z U g.c.rcl):=λp=>(f.out p).2.2.2.2.2.2.2.1;have k8:∀p:BW b,p.w.cell? ⟨N,8,ob⟩=oa (ot g.c.fromA g.c.nfrom g.c.fromC):=λp=>(f.out p).2.2.2.2.2.2.2.2.1;have k9:∀p:BW b,p.w.cell? ⟨N,9,ob⟩=oa (ot g.c.insA g.c.ins.length g.c.insC):=λp=>(f.out p).2.2.2.2.2.2.2.2.2;have pn:∀p:BW b,p.w.cell? ⟨N+1,1,ob⟩=oa (Z U i.d):=λp=>by rw[p.h.cell (p:=⟨N+1,1,ob⟩) oT];exact i1
 have po:∀p:BW b,p.w.cell? ⟨N+1,2,ob⟩=oa (Z U i.a):=λp=>by rw[p.h.cell (p:=⟨N+1,2,ob⟩) oT];exact i2
 clear y o q oS HT HB oY;cases j with
 |false=>
  go_enter dp,dc
  go_wp2_with (refine cc rfl 184 _ rfl N rfl 184 (jg m g) (0,0) _ G.out cj rfl (by kernel_rfl) ?_)
  refine zQ ?_
  repeat (go_big_quiet_step (first
   |(go_at_call 188;exact bn (oR.out _ _ (HV.out _ (by first|exact .inl rfl|exact .inr rfl))))
   |(go_at_call 99;exact fP (av _ _ _))))
  refine eC ?_;rintro _ ⟨p,rfl⟩;go_wp2;go_ret;rw[oX.out,A.out];exact⟨rfl,D.out.trans (p.h.mono (by omega))⟩
 |true=>
  go_enter dp,dc
  go_wp2_with (refine cc rfl 184 _ rfl N rfl 184 (jg m g) (0,0) _ G.out cj rfl (by kernel_rfl) ?_)
  refine zQ ?_
  repeat (go_big_quiet_step (first
   |(go_at_call 188;exact bn (oR.out _ _ (HV.out _ (by first|exact .inl rfl|exact .inr rfl))))
   |(go_at_call 99;exact fP (av _ _ _))))
  refine eC ?_;rintro _ ⟨p,rfl⟩;go_wp2;go_ret;rw[oX.out,A.out];exact⟨rfl,D.out.trans (p.h.mono (by omega))⟩
theorem yS (m:Mo)(g:Fn)(i:Ins)(w:World)(oS:i.op=12)(h:bM w m g i):
  zP 189 #[oA (jg m g),oA i.cells] w (Z U (ak m g.vs i)):=by
 have o:cr (ak m g.vs i=if i.f<0 then 15 else match m.ss[i.f.toNat]? with
  |none=>15
  |some s=>dS (aA g.vs i.d==(oc,s.s.nm)) 7):=by
  unfold cr ak;rw[oS];rfl
 obtain⟨R,hR⟩:=zE (ak m g.vs i);rw[hR] at o⊢;clear hR;have K:=zH h;obtain⟨N,a,hN,pl,pm,pb,⟨i0,i1,i2,i3,i4,i6⟩,Y,pn,q,y,po,HT,HD,HA,HB⟩:=aZ oS h;clear h oS;have ph:a.cell? ⟨N,0,ob⟩=oa (ot m.sA m.ss.length m.sC):=(fO.of y.out).1
 by_cases A:i.f<0
 ·have D:cr (R=15):=by unfold cr;rw[o.out,cQ A]
  clear o HT HD HA HB K;go_enter dp,dc
  go_wp2_with (refine cc rfl 184 _ rfl N rfl 184 (jg m g) (0,0) _ y.out cj rfl (by kernel_rfl) ?_)
  go_ret;rw[D.out];exact⟨rfl,by first|exact q.out|(rw[Y.out];exact q.out)⟩
 obtain⟨F,hF⟩:∃F:bw,i.f=(F:ct):=⟨i.f.toNat,by omega⟩
 rw[hF] at i4
 by_cases G:F<m.ss.length
 ·obtain⟨u,hst⟩:∃f,m.ss[F]?=oa f:=⟨_,ce G⟩
  have pc:cr (R=dS (aA g.vs i.d==(oc,u.s.nm)) 7):=by
   unfold cr;rw[o.out,cy A,hF,eN,hst]
  obtain⟨J,pd,oT,pi,pf⟩:=K.out.j.mo.srow (by intro e;rw[e] at G;simp at G);have pj:J<N:=by omega
  have c0:w.cell? ⟨J,pd+F*4,ob⟩=oa (oe u.s.nm):=pf F u hst 0 _ rfl;obtain⟨⟨bd,sd⟩,oR⟩:∃t,aA g.vs i.d=t:=⟨_,rfl⟩
  have pp:(aA g.vs i.d).1=bd:=by rw[oR]
  have pw:(aA g.vs i.d).2=sd:=by rw[oR]
  have HV:cr (∀v,v=i.d\/v=i.d->isVar g.vs.length v=oc):=λv h=>by rcases h with rfl|rfl<;>exact HD.out rfl
  have oX:cr (∀(p:BW a)(v:ct),isVar g.vs.length v=oc->zP 188 #[oA (jg m g),Z U v] p.w (oA #[oy (aA g.vs v).1,oe (aA g.vs v).2])):=λp v hv=>HT.out p.w v (by rw[Y.out];exact q.out.trans (p.h.mono (by omega))) hv;unfold jg at oX;obtain⟨d,oY⟩:=zE (((bd,sd):Ty)==(oc,u.s.nm));have px:∀w,(js 10000 32 (oA #[oy bd,oe sd]) (oA #[oy oc,oe u.s.nm])).run ac w= .ok d w:=λw=>by rw[il,oY]
  have D:cr (R=dS d 7):=by unfold cr;rw[pc.out,oR,oY]
  have b:cr (∀p:BW a,fO p.w N m g):=λp=>fO.of ((p.h.block N (by omega)).trans y.out);have k0:∀p:BW a,p.w.cell? ⟨N,0,ob⟩=oa (ot m.sA m.ss.length m.sC):=λp=>(b.out p).1;have k1:∀p:BW a,p.w.cell? ⟨N,1,ob⟩=oa (ot m.fA m.fs.length m.fC):=λp=>(b.out p).2.1;have k2:∀p:BW a,p.w.cell? ⟨N,2,ob⟩=oa (oe g.c.nm):=λp=>(b.out p).2.2.1;have k3:∀p:BW a,p.w.cell? ⟨N,3,ob⟩=oa (Z U g.c.par):=λp=>(b.out p).2.2.2.1;have k4:∀p:BW a,p.w.cell? ⟨N,4,ob⟩=oa (ot g.c.varsA g.c.nvars g.c.varsC):=λp=>(b.out p).2.2.2.2.1;have k5:∀p:BW a,p.w.cell? ⟨N,5,ob⟩=oa (oy g.c.rp):=λp=>(b.out p).2.2.2.2.2.1;have k6:∀p:BW a,p.w.cell? ⟨N,6,ob⟩=oa (oe g.c.rto):=λp=>(b.out p).2.2.2.2.2.2.1;have k7:∀p:BW a,p.w.cell? ⟨N,7,ob⟩=oa (Z U g.c.rcl):=λp=>(b.out p).2.2.2.2.2.2.2.1;have k8:∀p:BW a,p.w.cell? ⟨N,8,ob⟩=oa (ot g.c.fromA g.c.nfrom g.c.fromC):=λp=>(b.out p).2.2.2.2.2.2.2.2.1;have k9:∀p:BW a,p.w.cell? ⟨N,9,ob⟩=oa (ot g.c.insA g.c.ins.length g.c.insC):=λp=>(b.out p).2.2.2.2.2.2.2.2.2;have py:∀p:BW a,p.w.cell? ⟨N+1,1,ob⟩=oa (Z U i.d):=λp=>by rw[p.h.cell (p:=⟨N+1,1,ob⟩) pb];exact i1
  have pB:∀p:BW a,p.w.cell? ⟨N+1,4,ob⟩=oa (Z U (F:ct)):=λp=>by rw[p.h.cell (p:=⟨N+1,4,ob⟩) pb];exact i4
  have pD:∀p:BW a,p.w.cell? ⟨J,pd+F*4,ob⟩=oa (oe u.s.nm):=λp=>by
   rw[(q.out.trans (p.h.mono (by omega))).cell (p:=⟨J,_,ob⟩) pj];exact c0
  have pk:(F:ct)<(m.ss.length:ct):=by omega
  have pH:J<a.heap.size:=by omega
  have pL:∀(s:ap)(w:World),(Instr.build 32 #[(0,oy oc),(1,oe s)]).run ac w= .ok (oA #[oy oc,oe s]) w:=λs w=>run_build w 32 _ _ (by kernel_rfl);rw[oT] at ph k0 oX;have pN:=zH oT;clear o pc oY oR HT HB K oT hst G hF A pi pf c0;go_enter dp,dc
  go_wp2_with (refine cc rfl 184 _ rfl N rfl 184 (jg m g) (0,0) _ y.out cj rfl (by kernel_rfl) ?_)
  refine zQ ?_
  repeat (go_big_quiet_step (first
   |(go_at_call 188;exact bn (oX.out _ _ (HV.out _ (by first|exact .inl rfl|exact .inr rfl))))
   |(go_at_call 99;exact fP (av _ _ _))))
  refine eC ?_;rintro _ ⟨p,rfl⟩;go_wp2;go_ret;rw[D.out,Y.out];exact⟨rfl,q.out.trans (p.h.mono (by omega))⟩
 ·have D:cr (R=15):=by unfold cr;rw[o.out,cy A,hF,eN,na (by omega)]
  have pk:¬((F:ct)<(m.ss.length:ct)):=by omega
  clear o HT HD HA HB K G hF A;go_enter dp,dc
  go_wp2_with (refine cc rfl 184 _ rfl N rfl 184 (jg m g) (0,0) _ y.out cj rfl (by kernel_rfl) ?_)
  go_ret;rw[D.out];exact⟨rfl,by first|exact q.out|(rw[Y.out];exact q.out)⟩
theorem vG {w:World}{B:bw}{xs:bh ct}(a:B=w.heap.size):aV (w.alloc (oB (xs.map (dv .i64)).toArray 3)) (oa ⟨B,0,ob⟩) xs:=by
 subst a;intro _;refine⟨w.heap.size,0,rfl,by simp,λk u b=> ?_⟩;rw[cJ,World.cell?_alloc_new];simp[b]
theorem nE {w:World}{B:bw}{xs:bh ap}(a:B=w.heap.size):aF (w.alloc (oB (xs.map dj).toArray 9)) (oa ⟨B,0,ob⟩) xs:=by
 subst a;intro _;refine⟨w.heap.size,0,rfl,by simp,λk u b=> ?_⟩;rw[cJ,World.cell?_alloc_new];simp[b]
theorem zZ (m:Mo)(g:Fn)(i:Ins)(w:World)(K:i.op=4)(h:bM w m g i):
  zP 189 #[oA (jg m g),oA i.cells] w (Z U (ak m g.vs i)):=by
 have D:cr (ak m g.vs i=fV (dN g.vs [i.d,i.a,i.b]) i.sign kQ):=by
  unfold cr ak;rw[K];rfl
 obtain⟨R,hR⟩:=zE (ak m g.vs i);rw[hR] at D⊢;clear hR;have pb:=zH h;obtain⟨N,f,hN,ph,pi,G,⟨i0,i1,i2,i3,i4,i6⟩,HN,pj,pc,pf,pk,HT,HD,HA,HB⟩:=aZ K h;clear h K;obtain⟨Y,oR⟩:=zE (dN g.vs [i.d,i.a,i.b]);rw[oR] at D;have oS:cr (∀(W:World)(q:bw),bj f.heap.size f W->aV W (oa ⟨q,0,ob⟩) [i.d,i.a,i.b]->zP 187 #[oA (jg m g),ot (oa ⟨q,0,ob⟩) 3 3] W (Z U Y)):=by
  intro W q v oT;have hj:=pb.out.j.below (by rw[HN.out];exact pc.out.trans (v.mono (by omega)):bj w.heap.size w W);have:=bE m g (oa ⟨q,0,ob⟩) [i.d,i.a,i.b] 3 W hj.vars hj.nv hj.vl (by unfold cX;simp) oT (by simp;exact⟨HD.out rfl,HA.out rfl,HB.out rfl⟩);rw[oR] at this;exact this
 have oX:cr (∀(W:World)(q:bw),aF W (oa ⟨q,0,ob⟩) kQ->zS 226 #[Z U Y,oe i.sign,ot (oa ⟨q,0,ob⟩) 11 11] W (Z U R)):=by
  intro W q oT;rw[D.out];exact jZ Y i.sign kQ (oa ⟨q,0,ob⟩) 11 W (by unfold cX kQ;simp) oT
 have u:cr (∀W,bj f.heap.size f W->W.cell? ⟨N+1,1,ob⟩=oa (Z U i.d)/\W.cell? ⟨N+1,2,ob⟩=oa (Z U i.a)/\W.cell? ⟨N+1,3,ob⟩=oa (Z U i.b)/\W.cell? ⟨N+1,6,ob⟩=oa (oe i.sign)/\bj f.heap.size f W):=λW v=>
  ⟨by rw[v.cell (p:=⟨N+1,1,ob⟩) G];exact i1,by rw[v.cell (p:=⟨N+1,2,ob⟩) G];exact i2,by rw[v.cell (p:=⟨N+1,3,ob⟩) G];exact i3,by rw[v.cell (p:=⟨N+1,6,ob⟩) G];exact i6,v⟩
 have HI:cr (∀(W:World)(B:bw),B=W.heap.size->aV (W.alloc (oB #[Z U i.d,Z U i.a,Z U i.b] 3)) (oa ⟨B,0,ob⟩) [i.d,i.a,i.b]):=λW B hB=>vG hB;have oY:cr (∀(W:World)(B:bw),B=W.heap.size->aF (W.alloc (oB #[oe ⟨#[43]⟩,oe ⟨#[45]⟩,oe ⟨#[42]⟩,oe ⟨#[47]⟩,oe ⟨#[37]⟩,oe ⟨#[60]⟩,oe ⟨#[60,61]⟩,oe ⟨#[62]⟩,oe ⟨#[62,61]⟩,oe ⟨#[61,61]⟩,oe ⟨#[33,61]⟩] 9)) (oa ⟨B,0,ob⟩) kQ):=λW B hB=>nE hB;clear D HD HA HB HT pb oR;go_enter dp,dc
 go_wp2_with (refine cc rfl 184 _ rfl N rfl 184 (jg m g) (0,0) _ pf.out cj rfl (by kernel_rfl) ?_)
 go_region_held3 (λw'=>w'.cell? ⟨N+1,1,ob⟩=oa (Z U i.d)/\w'.cell? ⟨N+1,2,ob⟩=oa (Z U i.a)/\w'.cell? ⟨N+1,3,ob⟩=oa (Z U i.b)/\w'.cell? ⟨N+1,6,ob⟩=oa (oe i.sign)/\bj f.heap.size f w')
  (first
   |(exact J)
   |(exact u.out _ ((an _ _).drew))
   |(exact u.out _ (((an _ _).drew).alloc (by simp) _))
   |(exact u.out _ ((((an _ _).drew).alloc (by simp) _).alloc (by simp<;>omega) _))
   |(exact u.out _ o)
   |(exact u.out _ (o.alloc (by have:=o.size;omega) _))
   |fail)
  (first
   |(go_at_call 187;first
      |(refine(oS.out _ _ (((an _ _).drew).alloc (by simp) _) (HI.out _ _ (by simp<;>omega))).mono ?_;rintro e A ⟨rfl,y⟩;have o:bj f.heap.size f A:=(((an _ _).drew).alloc (by simp) _).trans (y.mono (by simp));have J:=u.out _ o)
      |(refine(oS.out _ _ ((((an _ _).drew).alloc (by simp) _).alloc (by simp<;>omega) _) (HI.out _ _ (by simp<;>omega))).mono ?_;rintro e A ⟨rfl,y⟩;have o:bj f.heap.size f A:=((((an _ _).drew).alloc (by simp) _).alloc (by simp<;>omega) _).trans (y.mono (by simp<;>omega));have J:=u.out _ o)
      |(refine(oS.out _ _ ((((an _ _).drew).alloc (by simp) _).alloc (by simp<;>omega) _) ((HI.out _ _ (by simp<;>omega)).below ((an _ _).alloc (bl _) _))).mono ?_;rintro e A ⟨rfl,y⟩;have o:bj f.heap.size f A:=((((an _ _).drew).alloc (by simp) _).alloc (by simp<;>omega) _).trans (y.mono (by simp<;>omega));have J:=u.out _ o))
   |(go_at_call 226;first
      |(refine(oX.out _ _ (oY.out _ _ (by simp))).mono ?_;rintro e pd ⟨rfl,rfl⟩)
      |(refine(oX.out _ _ ((oY.out _ _ (by simp<;>omega)).below y)).mono ?_;rintro e pd ⟨rfl,rfl⟩)
      |(refine(oX.out _ _ (((oY.out _ _ (by simp<;>omega)).below ((an _ _).alloc (bl _) _)).below y)).mono ?_;rintro e pd ⟨rfl,rfl⟩)))
 all_goals
  clear J;go_wp2;go_ret;refine⟨rfl, ?_⟩;rw[HN.out];exact pc.out.trans (lr (by first|exact o|exact o.alloc (by have:=o.size;omega) _) (by omega))
section
variable {P:gA}{ops:cC fY}{Q:Exit->Act->World->Prop}{md:ey}{S:World->Prop}
theorem zW (i:bw)(v:bo){b:fY}{fuel:bw}{listed:cC iv}{a:Act}{w:World}(d:ops[i]?=oa b)
  (h:wpAnyH P md ops Q S fuel (listed.setIfInBounds i oc) (a.put b.dst v) w)
  (f:∀w,S w->(execOp a.eval b).run P w= .ok (.value v) w:=by intro w g;(try dsimp only at g);go_simp)
  (j:cU b (gh ops a.tmps)=oc:=by rfl)(o:el ops=oc:=by kernel_rfl)(hf:gE md ops listed i=oc:=by kernel_rfl)(q:(cG md ops listed).contains i=oc:=by kernel_rfl)
  (u:∀c a w,Q (.panic c) (a.put b.dst v) w->Q (.panic c) a w:=by exact λ_ _ _ h=>h)(y:S w:=by assumption):wpAnyH P md ops Q S (fuel+1) listed a w:=
 wpAnyH_take d o hf q u (.inl ⟨j,f⟩) y h
theorem zX (i:bw){b:fY}{fuel:bw}{listed:cC iv}{a:Act}{w:World}(d:ops[i]?=oa b)
  (h:wpAnyH P md ops Q S fuel (listed.setIfInBounds i oc) (a.put b.dst undef) w)
  (f:cU b (gh ops a.tmps)=od:=by rfl)(g:el ops=oc:=by kernel_rfl)(hf:gE md ops listed i=oc:=by kernel_rfl)(j:(cG md ops listed).contains i=oc:=by kernel_rfl)
  (o:∀c a w,Q (.panic c) (a.put b.dst undef) w->Q (.panic c) a w:=by exact λ_ _ _ h=>h)(q:S w:=by assumption):wpAnyH P md ops Q S (fuel+1) listed a w:=
 wpAnyH_take d g hf j o (.inr ⟨f,rfl⟩) q h
end
theorem yU (m:Mo)(g:Fn)(i:Ins)(w:World)(oY:i.op=14)(h:bM w m g i):
  zP 189 #[oA (jg m g),oA i.cells] w (Z U (ak m g.vs i)):=by
 have HE:cr (ak m g.vs i=fV (dS (!(aA g.vs i.d).1&&(aA g.vs i.a).1) 7) i.sign jG):=by
  unfold cr ak;rw[oY];rfl
 obtain⟨R,hR⟩:=zE (ak m g.vs i);rw[hR] at HE⊢;clear hR;have pj:=zH h;obtain⟨N,u,hN,pl,pm,pb,⟨i0,i1,i2,i3,i4,i6⟩,J,pn,Y,pc,po,HT,HD,HA,HB⟩:=aZ oY h;clear h oY;obtain⟨⟨ba,sa⟩,oR⟩:∃t,aA g.vs i.a=t:=⟨_,rfl⟩
 obtain⟨⟨bd,sd⟩,oS⟩:∃t,aA g.vs i.d=t:=⟨_,rfl⟩
 have pp:(aA g.vs i.a).1=ba:=by rw[oR]
 have pw:(aA g.vs i.a).2=sa:=by rw[oR]
 have px:(aA g.vs i.d).1=bd:=by rw[oS]
 have py:(aA g.vs i.d).2=sd:=by rw[oS]
 have HV:cr (∀v,v=i.a\/v=i.d->isVar g.vs.length v=oc):=λv h=>by rcases h with rfl|rfl;exact HA.out rfl;exact HD.out rfl
 have pd:cr (∀(W:World)(v:ct),bj u.heap.size u W->isVar g.vs.length v=oc->et ac 188 #[oA #[ot m.sA m.ss.length m.sC,ot m.fA m.fs.length m.fC,oe g.c.nm,Z U g.c.par,ot g.c.varsA g.c.nvars g.c.varsC,oy g.c.rp,oe g.c.rto,Z U g.c.rcl,ot g.c.fromA g.c.nfrom g.c.fromC,ot g.c.insA g.c.ins.length g.c.insC],Z U v] W λe w'=>e= oE (oA #[oy (aA g.vs v).1,oe (aA g.vs v).2])/\bj u.heap.size u w'/\bj W.heap.size W w'):=by
  intro W v A hv;refine(HT.out W v (by rw[J.out];exact Y.out.trans (A.mono (by omega))) hv).mono ?_;rintro e w' ⟨rfl,hb⟩;exact⟨rfl,A.trans (hb.mono A.size),hb⟩
 have pf:cr (R=fV (dS (!bd&&ba) 7) i.sign jG):=by unfold cr;rw[HE.out,oR,oS]
 have oT:cr (∀(W:World)(oX:bw),aF W (oa ⟨oX,0,ob⟩) jG->zS 226 #[Z U (dS (!bd&&ba) 7),oe i.sign,ot (oa ⟨oX,0,ob⟩) 2 2] W (Z U R)):=by
  intro W oX pk;rw[pf.out];exact jZ _ i.sign jG (oa ⟨oX,0,ob⟩) 2 W (by unfold cX jG;simp) pk
 have ph:cr (∀W,bj u.heap.size u W->fO W N m g):=λW A=>fO.of ((A.block N (by omega)).trans pc.out);have j:cr (∀W,bj u.heap.size u W->W.cell? ⟨N,0,ob⟩=oa (ot m.sA m.ss.length m.sC)/\W.cell? ⟨N,1,ob⟩=oa (ot m.fA m.fs.length m.fC)/\W.cell? ⟨N,2,ob⟩=oa (oe g.c.nm)/\W.cell? ⟨N,3,ob⟩=oa (Z U g.c.par)/\W.cell? ⟨N,4,ob⟩=oa (ot g.c.varsA g.c.nvars g.c.varsC)/\W.cell? ⟨N,5,ob⟩=oa (oy g.c.rp)/\W.cell? ⟨N,6,ob⟩=oa (oe g.c.rto)/\W.cell? ⟨N,7,ob⟩=oa (Z U g.c.rcl)/\W.cell? ⟨N,8,ob⟩=oa (ot g.c.fromA g.c.nfrom g.c.fromC)/\W.cell? ⟨N,9,ob⟩=oa (ot g.c.insA g.c.ins.length g.c.insC)/\W.cell? ⟨N+1,1,ob⟩=oa (Z U i.d)/\W.cell? ⟨N+1,2,ob⟩=oa (Z U i.a)/\W.cell? ⟨N+1,6,ob⟩=oa (oe i.sign)/\bj u.heap.size u W):=λW A=>by
  obtain⟨a0,a1,a2,a3,a4,a5,a6,a7,a8,a9⟩:=ph.out W A;exact⟨a0,a1,a2,a3,a4,a5,a6,a7,a8,a9,by rw[A.cell (p:=⟨N+1,1,ob⟩) pb];exact i1,by rw[A.cell (p:=⟨N+1,2,ob⟩) pb];exact i2,by rw[A.cell (p:=⟨N+1,6,ob⟩) pb];exact i6,A⟩
 have o:cr (∀(W:World)(B:bw),B=W.heap.size->aF (W.alloc (oB #[oe ⟨#[61,61]⟩,oe ⟨#[33,61]⟩] 9)) (oa ⟨B,0,ob⟩) jG):=λW B hB=>nE hB;have pB:=gT;clear HE HD HA HB HT pj oR oS ph pf;cases bd with
 |false=>
  go_enter dp,dc
  go_wp2_with (refine cc rfl 184 _ rfl N rfl 184 (jg m g) (0,0) _ pc.out cj rfl (by kernel_rfl) ?_)
  go_region_held3 (λw'=>w'.cell? ⟨N,0,ob⟩=oa (ot m.sA m.ss.length m.sC)/\w'.cell? ⟨N,1,ob⟩=oa (ot m.fA m.fs.length m.fC)/\w'.cell? ⟨N,2,ob⟩=oa (oe g.c.nm)/\w'.cell? ⟨N,3,ob⟩=oa (Z U g.c.par)/\w'.cell? ⟨N,4,ob⟩=oa (ot g.c.varsA g.c.nvars g.c.varsC)/\w'.cell? ⟨N,5,ob⟩=oa (oy g.c.rp)/\w'.cell? ⟨N,6,ob⟩=oa (oe g.c.rto)/\w'.cell? ⟨N,7,ob⟩=oa (Z U g.c.rcl)/\w'.cell? ⟨N,8,ob⟩=oa (ot g.c.fromA g.c.nfrom g.c.fromC)/\w'.cell? ⟨N,9,ob⟩=oa (ot g.c.insA g.c.ins.length g.c.insC)/\w'.cell? ⟨N+1,1,ob⟩=oa (Z U i.d)/\w'.cell? ⟨N+1,2,ob⟩=oa (Z U i.a)/\w'.cell? ⟨N+1,6,ob⟩=oa (oe i.sign)/\bj u.heap.size u w')
   (first
    |(exact q)
    |(exact j.out _ (by first|exact(an _ _).drew|exact((an _ _).drew).alloc (by simp) _|exact b|exact b.alloc (by have:=b.size;omega) _|fail))
    |fail)
   (first
    |(go_at_call 188;refine(pd.out _ _ (by first|exact(an _ _).drew|exact((an _ _).drew).alloc (by simp) _|exact b|exact b.alloc (by have:=b.size;omega) _|fail) (HV.out _ (by first|exact .inl rfl|exact .inr rfl))).mono ?_;rintro e pi ⟨rfl,b,y⟩;have q:=j.out _ b)
    |(go_at_call 99;refine(av _ _ _).mono ?_;rintro e G ⟨rfl,rfl⟩)
    |(go_at_call 226;refine(oT.out _ _ (by first|exact o.out _ _ rfl|(refine aF.below ?_ y;exact o.out _ _ rfl)|(refine aF.below ?_ y;refine aF.below ?_ ((an _ _).drew);exact o.out _ _ (by first|omega|(simp<;>omega)))|(refine aF.below ?_ y;refine aF.below ?_ (by assumption);refine aF.below ?_ ((an _ _).drew);exact o.out _ _ (by first|omega|(simp<;>omega)))|fail)).mono ?_;rintro e G ⟨rfl,rfl⟩))
  all_goals
   clear q;go_wp2;go_ret;refine⟨rfl, ?_⟩;rw[J.out];exact Y.out.trans (lr (by first|exact b|exact b.alloc (by have:=b.size;omega) _) (by omega))
 |true=>
  go_enter dp,dc
  go_wp2_with (refine cc rfl 184 _ rfl N rfl 184 (jg m g) (0,0) _ pc.out cj rfl (by kernel_rfl) ?_)
  refine wp_region_held_drew (S:=(λw'=>w'.cell? ⟨N,0,ob⟩=oa (ot m.sA m.ss.length m.sC)/\w'.cell? ⟨N,1,ob⟩=oa (ot m.fA m.fs.length m.fC)/\w'.cell? ⟨N,2,ob⟩=oa (oe g.c.nm)/\w'.cell? ⟨N,3,ob⟩=oa (Z U g.c.par)/\w'.cell? ⟨N,4,ob⟩=oa (ot g.c.varsA g.c.nvars g.c.varsC)/\w'.cell? ⟨N,5,ob⟩=oa (oy g.c.rp)/\w'.cell? ⟨N,6,ob⟩=oa (oe g.c.rto)/\w'.cell? ⟨N,7,ob⟩=oa (Z U g.c.rcl)/\w'.cell? ⟨N,8,ob⟩=oa (ot g.c.fromA g.c.nfrom g.c.fromC)/\w'.cell? ⟨N,9,ob⟩=oa (ot g.c.insA g.c.ins.length g.c.insC)/\w'.cell? ⟨N+1,1,ob⟩=oa (Z U i.d)/\w'.cell? ⟨N+1,2,ob⟩=oa (Z U i.a)/\w'.cell? ⟨N+1,6,ob⟩=oa (oe i.sign)/\bj u.heap.size u w')) (by kernel_rfl) (j.out _ (an _ _).drew) (λD=> ?_);refine zW 0 (oA #[ot m.sA m.ss.length m.sC,ot m.fA m.fs.length m.fC,oe g.c.nm,Z U g.c.par,ot g.c.varsA g.c.nvars g.c.varsC,oy g.c.rp,oe g.c.rto,Z U g.c.rcl,ot g.c.fromA g.c.nfrom g.c.fromC,ot g.c.insA g.c.ins.length g.c.insC]) rfl ?_
  try simp only[cE,cd,br,am,aE,bb]
  refine zW 1 (ox (oa ⟨N+1,1,ob⟩)) rfl ?_
  try simp only[cE,cd,br,bx,am,aE,bb]
  refine zW 2 (Z U i.d) rfl ?_
  try simp only[cE,cd,br,bx,am,aE,bb]
  refine zW 14 (ox (oa ⟨N+1,6,ob⟩)) rfl ?_
  try simp only[cE,cd,br,bx,am,aE,bb]
  refine zW 15 (oe i.sign) rfl ?_
  try simp only[cE,cd,br,bx,am,aE,bb]
  refine gd (rs:=[3,16]) (by kernel_rfl) (by simp) ?_;refine ei rfl (λK f=> ?_) ?_
  ·
   go_simp
   (go_at_call 188;refine(pd.out _ _ (by first|exact(an _ _).drew|exact((an _ _).drew).alloc (by simp) _|exact b|exact b.alloc (by have:=b.size;omega) _|fail) (HV.out _ (by first|exact .inl rfl|exact .inr rfl))).mono ?_;rintro e pi ⟨rfl,b,y⟩;have q:=j.out _ b)
   go_wp2_with fail
   refine f.out _ _ (by first|exact q|exact j.out _ (by first|exact(an _ _).drew|exact((an _ _).drew).alloc (by simp) _|exact b|exact b.alloc (by have:=b.size;omega) _|fail)|fail) (λD=> ?_);clear f K
   try simp only[cE,cd,br,bx,am,aE,bb]
   refine zW 4 (oy oc) rfl ?_
   try simp only[cE,cd,br,bx,am,aE,bb]
   refine zW 5 (oy od) rfl ?_
   try simp only[cE,cd,br,bx,am,aE,bb]
   refine zW 6 (oy od) rfl ?_
   try simp only[cE,cd,br,bx,am,aE,bb]
   refine zX 7 rfl ?_
   try simp only[cE,cd,br,bx,am,aE,bb]
   refine zX 8 rfl ?_
   try simp only[cE,cd,br,bx,am,aE,bb]
   refine zX 9 rfl ?_
   try simp only[cE,cd,br,bx,am,aE,bb]
   refine zX 10 rfl ?_
   try simp only[cE,cd,br,bx,am,aE,bb]
   refine zX 11 rfl ?_
   try simp only[cE,cd,br,bx,am,aE,bb]
   refine zW 12 (oy od) rfl ?_
   try simp only[cE,cd,br,bx,am,aE,bb]
   refine gd (rs:=[13,16]) (by kernel_rfl) (by simp) ?_;refine ei rfl (λK f=> ?_) ?_
   ·
    go_simp
    (go_at_call 99;refine(av _ _ _).mono ?_;rintro e G ⟨rfl,rfl⟩)
    go_wp2_with fail
    refine f.out _ _ (by first|exact q|exact j.out _ (by first|exact(an _ _).drew|exact((an _ _).drew).alloc (by simp) _|exact b|exact b.alloc (by have:=b.size;omega) _|fail)|fail) (λD=> ?_);clear f K
    try simp only[cE,cd,br,bx,am,aE,bb]
    refine gd (rs:=[16]) (by kernel_rfl) (by simp) ?_;refine ei rfl (λK f=> ?_) ?_
    ·
     go_simp;refine f.out _ _ (by first|exact q|exact j.out _ (by first|exact(an _ _).drew|exact((an _ _).drew).alloc (by simp) _|exact b|exact b.alloc (by have:=b.size;omega) _|fail)|fail) (λD=> ?_);clear f K
     try simp only[cE,cd,br,bx,am,aE,bb]
     refine gd (rs:=[17]) (by kernel_rfl) (by simp) ?_;refine ei rfl (λK f=> ?_) ?_
     ·
      go_simp
      (go_at_call 226;refine(oT.out _ _ (by first|exact o.out _ _ rfl|(refine aF.below ?_ y;exact o.out _ _ rfl)|(refine aF.below ?_ y;refine aF.below ?_ ((an _ _).drew);exact o.out _ _ (by first|omega|(simp<;>omega)))|(refine aF.below ?_ y;refine aF.below ?_ (by assumption);refine aF.below ?_ ((an _ _).drew);exact o.out _ _ (by first|omega|(simp<;>omega)))|fail)).mono ?_;rintro e G ⟨rfl,rfl⟩)
      go_wp2_with fail
      refine f.out _ _ (by first|exact q|exact j.out _ (by first|exact(an _ _).drew|exact((an _ _).drew).alloc (by simp) _|exact b|exact b.alloc (by have:=b.size;omega) _|fail)|fail) (λD=> ?_);clear f K
      try simp only[cE,cd,br,bx,am,aE,bb]
      refine zW 18 (Z U R) rfl ?_
      try simp only[cE,cd,br,bx,am,aE,bb]
      refine wpAnyH_done (by kernel_rfl) ?_ _;go_wp2;go_ret;refine⟨rfl, ?_⟩;rw[J.out];exact Y.out.trans (lr (by first|exact b|exact b.alloc (by have:=b.size;omega) _) (by omega))
     exact eS
    exact eS
   refine ei rfl (λK f=> ?_) ?_
   ·
    go_simp;refine f.out _ _ (by first|exact q|exact j.out _ (by first|exact(an _ _).drew|exact((an _ _).drew).alloc (by simp) _|exact b|exact b.alloc (by have:=b.size;omega) _|fail)|fail) (λD=> ?_);clear f K
    try simp only[cE,cd,br,bx,am,aE,bb]
    refine gd (rs:=[13]) (by kernel_rfl) (by simp) ?_;refine ei rfl (λK f=> ?_) ?_
    ·
     go_simp
     (go_at_call 99;refine(av _ _ _).mono ?_;rintro e G ⟨rfl,rfl⟩)
     go_wp2_with fail
     refine f.out _ _ (by first|exact q|exact j.out _ (by first|exact(an _ _).drew|exact((an _ _).drew).alloc (by simp) _|exact b|exact b.alloc (by have:=b.size;omega) _|fail)|fail) (λD=> ?_);clear f K
     try simp only[cE,cd,br,bx,am,aE,bb]
     refine gd (rs:=[17]) (by kernel_rfl) (by simp) ?_;refine ei rfl (λK f=> ?_) ?_
     ·
      go_simp
      (go_at_call 226;refine(oT.out _ _ (by first|exact o.out _ _ rfl|(refine aF.below ?_ y;exact o.out _ _ rfl)|(refine aF.below ?_ y;refine aF.below ?_ ((an _ _).drew);exact o.out _ _ (by first|omega|(simp<;>omega)))|(refine aF.below ?_ y;refine aF.below ?_ (by assumption);refine aF.below ?_ ((an _ _).drew);exact o.out _ _ (by first|omega|(simp<;>omega)))|fail)).mono ?_;rintro e G ⟨rfl,rfl⟩)
      go_wp2_with fail
      refine f.out _ _ (by first|exact q|exact j.out _ (by first|exact(an _ _).drew|exact((an _ _).drew).alloc (by simp) _|exact b|exact b.alloc (by have:=b.size;omega) _|fail)|fail) (λD=> ?_);clear f K
      try simp only[cE,cd,br,bx,am,aE,bb]
      refine zW 18 (Z U R) rfl ?_
      try simp only[cE,cd,br,bx,am,aE,bb]
      refine wpAnyH_done (by kernel_rfl) ?_ _;go_wp2;go_ret;refine⟨rfl, ?_⟩;rw[J.out];exact Y.out.trans (lr (by first|exact b|exact b.alloc (by have:=b.size;omega) _) (by omega))
     exact eS
    exact eS
   exact eS
  refine ei rfl (λK f=> ?_) ?_
  ·
   go_simp;refine f.out _ _ (by first|exact q|exact j.out _ (by first|exact(an _ _).drew|exact((an _ _).drew).alloc (by simp) _|exact b|exact b.alloc (by have:=b.size;omega) _|fail)|fail) (λD=> ?_);clear f K
   try simp only[cE,cd,br,bx,am,aE,bb]
   refine gd (rs:=[3]) (by kernel_rfl) (by simp) ?_;refine ei rfl (λK f=> ?_) ?_
   ·
    go_simp
    (go_at_call 188;refine(pd.out _ _ (by first|exact(an _ _).drew|exact((an _ _).drew).alloc (by simp) _|exact b|exact b.alloc (by have:=b.size;omega) _|fail) (HV.out _ (by first|exact .inl rfl|exact .inr rfl))).mono ?_;rintro e pi ⟨rfl,b,y⟩;have q:=j.out _ b)
    go_wp2_with fail
    refine f.out _ _ (by first|exact q|exact j.out _ (by first|exact(an _ _).drew|exact((an _ _).drew).alloc (by simp) _|exact b|exact b.alloc (by have:=b.size;omega) _|fail)|fail) (λD=> ?_);clear f K
    try simp only[cE,cd,br,bx,am,aE,bb]
    refine zW 4 (oy oc) rfl ?_
    try simp only[cE,cd,br,bx,am,aE,bb]
    refine zW 5 (oy od) rfl ?_
    try simp only[cE,cd,br,bx,am,aE,bb]
    refine zW 6 (oy od) rfl ?_
    try simp only[cE,cd,br,bx,am,aE,bb]
    refine zX 7 rfl ?_
    try simp only[cE,cd,br,bx,am,aE,bb]
    refine zX 8 rfl ?_
    try simp only[cE,cd,br,bx,am,aE,bb]
    refine zX 9 rfl ?_
    try simp only[cE,cd,br,bx,am,aE,bb]
    refine zX 10 rfl ?_
    try simp only[cE,cd,br,bx,am,aE,bb]
    refine zX 11 rfl ?_
    try simp only[cE,cd,br,bx,am,aE,bb]
    refine zW 12 (oy od) rfl ?_
    try simp only[cE,cd,br,bx,am,aE,bb]
    refine gd (rs:=[13]) (by kernel_rfl) (by simp) ?_;refine ei rfl (λK f=> ?_) ?_
    ·
     go_simp
     (go_at_call 99;refine(av _ _ _).mono ?_;rintro e G ⟨rfl,rfl⟩)
     go_wp2_with fail
     refine f.out _ _ (by first|exact q|exact j.out _ (by first|exact(an _ _).drew|exact((an _ _).drew).alloc (by simp) _|exact b|exact b.alloc (by have:=b.size;omega) _|fail)|fail) (λD=> ?_);clear f K
     try simp only[cE,cd,br,bx,am,aE,bb]
     refine gd (rs:=[17]) (by kernel_rfl) (by simp) ?_;refine ei rfl (λK f=> ?_) ?_
     ·
      go_simp
      (go_at_call 226;refine(oT.out _ _ (by first|exact o.out _ _ rfl|(refine aF.below ?_ y;exact o.out _ _ rfl)|(refine aF.below ?_ y;refine aF.below ?_ ((an _ _).drew);exact o.out _ _ (by first|omega|(simp<;>omega)))|(refine aF.below ?_ y;refine aF.below ?_ (by assumption);refine aF.below ?_ ((an _ _).drew);exact o.out _ _ (by first|omega|(simp<;>omega)))|fail)).mono ?_;rintro e G ⟨rfl,rfl⟩)
      go_wp2_with fail
      refine f.out _ _ (by first|exact q|exact j.out _ (by first|exact(an _ _).drew|exact((an _ _).drew).alloc (by simp) _|exact b|exact b.alloc (by have:=b.size;omega) _|fail)|fail) (λD=> ?_);clear f K
      try simp only[cE,cd,br,bx,am,aE,bb]
      refine zW 18 (Z U R) rfl ?_
      try simp only[cE,cd,br,bx,am,aE,bb]
      refine wpAnyH_done (by kernel_rfl) ?_ _;go_wp2;go_ret;refine⟨rfl, ?_⟩;rw[J.out];exact Y.out.trans (lr (by first|exact b|exact b.alloc (by have:=b.size;omega) _) (by omega))
     exact eS
    exact eS
   exact eS
  exact eS
def kS:bh ap:=[⟨#[110,117,109]⟩,⟨#[110,117,108,108]⟩,⟨#[99,111,112,121]⟩,⟨#[98,105,110]⟩,⟨#[103,101,116]⟩,⟨#[112,117,116]⟩,⟨#[108,111,97,100]⟩,⟨#[115,116,111,114,101]⟩,⟨#[103,105,118,101]⟩,⟨#[116,97,107,101]⟩,⟨#[115,101,116]⟩,⟨#[110,101,119]⟩,⟨#[102,114,101,101]⟩,⟨#[105,115,110,117,108,108]⟩,⟨#[99,97,108,108]⟩,⟨#[106,117,109,112]⟩,⟨#[98,114,97,110,99,104]⟩,⟨#[114,101,116]⟩]
def fE (op:ct):ap:=if op<1\/18<op then⟨#[]⟩ else(kS[(op-1).toNat]?).getD ⟨#[]⟩
theorem qi {op:ct}(f:¬op<1)(g:¬18<op):∃(k:bw) (s:ap),op-1=(k:ct)/\k<18/\kS[k]?=oa s/\fE op=s:=by
 obtain⟨k,a⟩:∃k:bw,op-1=(k:ct):=⟨(op-1).toNat,by omega⟩
 have b:k<18:=by omega
 obtain⟨s,d⟩:∃s,kS[k]?=oa s:=⟨_,ce (show k<kS.length from b)⟩
 refine⟨k,s,a,b,d, ?_⟩;unfold fE;rw[cy (by omega),a,eN,d];rfl
theorem tY {op:ct}:(fE op==⟨#[]⟩)=(decide (op<1)||decide (18<op)):=by
 by_cases h:op<1\/18<op
 ·have e:fE op=⟨#[]⟩:=cQ h
  rw[e];rcases h with h|h
  ·rw[kh h];rfl
  ·rw[kh h,Bool.or_true];rfl
 ·obtain⟨k,s,f,a,b,d⟩:=qi (op:=op) (by omega) (by omega)
  rw[d,er (by omega),er (by omega)];have:∀j:bw,j<18->∀s,kS[j]?=oa s->(s==(⟨#[]⟩:ap))=od:=by decide
  exact this k a s b
theorem iw (op:ct)(w:World):zP 183 #[Z U op] w (oe (fE op)):=by
 have hst:∀(c:cC bo),c.size=18->(cM ⟨w.heap.size,0,ob⟩ [oe ⟨#[110,117,109]⟩,oe ⟨#[110,117,108,108]⟩,oe ⟨#[99,111,112,121]⟩,oe ⟨#[98,105,110]⟩,oe ⟨#[103,101,116]⟩,oe ⟨#[112,117,116]⟩,oe ⟨#[108,111,97,100]⟩,oe ⟨#[115,116,111,114,101]⟩,oe ⟨#[103,105,118,101]⟩,oe ⟨#[116,97,107,101]⟩,oe ⟨#[115,101,116]⟩,oe ⟨#[110,101,119]⟩,oe ⟨#[102,114,101,101]⟩,oe ⟨#[105,115,110,117,108,108]⟩,oe ⟨#[99,97,108,108]⟩,oe ⟨#[106,117,109,112]⟩,oe ⟨#[98,114,97,110,99,104]⟩,oe ⟨#[114,101,116]⟩] 0).run ac (w.alloc (oB c 316))= .ok () (w.alloc (oB #[oe ⟨#[110,117,109]⟩,oe ⟨#[110,117,108,108]⟩,oe ⟨#[99,111,112,121]⟩,oe ⟨#[98,105,110]⟩,oe ⟨#[103,101,116]⟩,oe ⟨#[112,117,116]⟩,oe ⟨#[108,111,97,100]⟩,oe ⟨#[115,116,111,114,101]⟩,oe ⟨#[103,105,118,101]⟩,oe ⟨#[116,97,107,101]⟩,oe ⟨#[115,101,116]⟩,oe ⟨#[110,101,119]⟩,oe ⟨#[102,114,101,101]⟩,oe ⟨#[105,115,110,117,108,108]⟩,oe ⟨#[99,97,108,108]⟩,oe ⟨#[106,117,109,112]⟩,oe ⟨#[98,114,97,110,99,104]⟩,oe ⟨#[114,101,116]⟩] 316)):=λc j=>
  cf (P:=ac) w 316 c #[oe ⟨#[110,117,109]⟩,oe ⟨#[110,117,108,108]⟩,oe ⟨#[99,111,112,121]⟩,oe ⟨#[98,105,110]⟩,oe ⟨#[103,101,116]⟩,oe ⟨#[112,117,116]⟩,oe ⟨#[108,111,97,100]⟩,oe ⟨#[115,116,111,114,101]⟩,oe ⟨#[103,105,118,101]⟩,oe ⟨#[116,97,107,101]⟩,oe ⟨#[115,101,116]⟩,oe ⟨#[110,101,119]⟩,oe ⟨#[102,114,101,101]⟩,oe ⟨#[105,115,110,117,108,108]⟩,oe ⟨#[99,97,108,108]⟩,oe ⟨#[106,117,109,112]⟩,oe ⟨#[98,114,97,110,99,104]⟩,oe ⟨#[114,101,116]⟩] (by show _=oa 18;kernel_rfl) j (by simp[bp])
 have D:∀w,(Instr.build 316 #[(0,oe ⟨#[110,117,109]⟩),(1,oe ⟨#[110,117,108,108]⟩),(2,oe ⟨#[99,111,112,121]⟩),(3,oe ⟨#[98,105,110]⟩),(4,oe ⟨#[103,101,116]⟩),(5,oe ⟨#[112,117,116]⟩),(6,oe ⟨#[108,111,97,100]⟩),(7,oe ⟨#[115,116,111,114,101]⟩),(8,oe ⟨#[103,105,118,101]⟩),(9,oe ⟨#[116,97,107,101]⟩),(10,oe ⟨#[115,101,116]⟩),(11,oe ⟨#[110,101,119]⟩),(12,oe ⟨#[102,114,101,101]⟩),(13,oe ⟨#[105,115,110,117,108,108]⟩),(14,oe ⟨#[99,97,108,108]⟩),(15,oe ⟨#[106,117,109,112]⟩),(16,oe ⟨#[98,114,97,110,99,104]⟩),(17,oe ⟨#[114,101,116]⟩)]).run ac w= .ok (oA #[oe ⟨#[110,117,109]⟩,oe ⟨#[110,117,108,108]⟩,oe ⟨#[99,111,112,121]⟩,oe ⟨#[98,105,110]⟩,oe ⟨#[103,101,116]⟩,oe ⟨#[112,117,116]⟩,oe ⟨#[108,111,97,100]⟩,oe ⟨#[115,116,111,114,101]⟩,oe ⟨#[103,105,118,101]⟩,oe ⟨#[116,97,107,101]⟩,oe ⟨#[115,101,116]⟩,oe ⟨#[110,101,119]⟩,oe ⟨#[102,114,101,101]⟩,oe ⟨#[105,115,110,117,108,108]⟩,oe ⟨#[99,97,108,108]⟩,oe ⟨#[106,117,109,112]⟩,oe ⟨#[98,114,97,110,99,104]⟩,oe ⟨#[114,101,116]⟩]) w:=λw=>by kernel_rfl
 obtain⟨N,b⟩:=zE w.heap.size;obtain⟨g,f⟩:=zE (w.alloc (oB #[oe ⟨#[110,117,109]⟩,oe ⟨#[110,117,108,108]⟩,oe ⟨#[99,111,112,121]⟩,oe ⟨#[98,105,110]⟩,oe ⟨#[103,101,116]⟩,oe ⟨#[112,117,116]⟩,oe ⟨#[108,111,97,100]⟩,oe ⟨#[115,116,111,114,101]⟩,oe ⟨#[103,105,118,101]⟩,oe ⟨#[116,97,107,101]⟩,oe ⟨#[115,101,116]⟩,oe ⟨#[110,101,119]⟩,oe ⟨#[102,114,101,101]⟩,oe ⟨#[105,115,110,117,108,108]⟩,oe ⟨#[99,97,108,108]⟩,oe ⟨#[106,117,109,112]⟩,oe ⟨#[98,114,97,110,99,104]⟩,oe ⟨#[114,101,116]⟩] 316));have o:=gq f b;have a:=zH o;have h:=zH b;have G:g.heap.size=N+1:=by rw[<-f];simp[b]
 have q:g.heap[N]?=oa (oB (kS.map dj).toArray 316 (0,0)):=by rw[<-f,<-b];exact alloc_at _ _
 rw[b,f] at hst;clear o
 by_cases u:op<1
 ·have d:cr (fE op=⟨#[]⟩):=cQ (.inl u)
  go_enter func183,ntmps183;go_wp2;go_ret;rw[d.out];exact⟨rfl,by first|exact a.out|(rw[h.out];exact a.out)⟩
 by_cases v:18<op
 ·have d:cr (fE op=⟨#[]⟩):=cQ (.inr v)
  go_enter func183,ntmps183;go_wp2;go_ret;rw[d.out];exact⟨rfl,by first|exact a.out|(rw[h.out];exact a.out)⟩
 obtain⟨k,s,J,K,y,A⟩:=qi u v;have j:g.cell? ⟨N,k,ob⟩=oa (oe s):=by
  rw[ci _ _ _ _ _ _ q];simp[y]
 have d:=zH A;have R:(k:ct)<18:=by omega
 clear q y A;go_enter func183,ntmps183;go_wp2;go_ret;rw[d.out];exact⟨rfl,by first|exact a.out|(rw[h.out];exact a.out)⟩
theorem lQ (m:Mo)(g:Fn)(i:Ins)(w:World)(b:1<=i.op/\i.op<=14)(h:bM w m g i):
  zP 189 #[oA (jg m g),oA i.cells] w (Z U (ak m g.vs i)):=by
 have a:i.op=1\/i.op=2\/i.op=3\/i.op=4\/i.op=5\/i.op=6\/i.op=7\/i.op=8\/i.op=9\/i.op=10\/i.op=11\/i.op=12\/i.op=13\/i.op=14:=by omega
 rcases a with e|e|e|e|e|e|e|e|e|e|e|e|e|e
 ·exact zG m g i w e h
 ·exact zN m g i w e h
 ·exact zM m g i w e h
 ·exact zZ m g i w e h
 ·exact zI m g i w e h
 ·exact zJ m g i w e h
 ·exact zU m g i w e h
 ·exact zV m g i w e h
 ·exact zY m g i w e h
 ·exact yQ m g i w e h
 ·exact yR m g i w e h
 ·exact yS m g i w e h
 ·exact yP m g i w e h
 ·exact yU m g i w e h
structure Aa (w:World)(m:Mo)(g:Fn)(i:Ins):Prop where
 j:yK w m g
 ar:i.args_in w
 al:i.args.length<=40
 kn:∀v,isVar g.vs.length v=oc->m.known (aA g.vs v)=oc
theorem iy {a W:World}{N:bw}(hb:bj a.heap.size a W){o:Obj}(h:a.heap[N]?=oa o):W.heap[N]?=oa o:=
 (hb.block N (aw.1 h).1).trans h
theorem kg (op:ct):(fE op).toList.isEmpty=(decide (op<1)||decide (18<op)):=by
 rw[<-tY,fR];have e:(⟨#[]⟩:ap).toList=[]:=by rw[ld]
 rw[e];cases (fE op).toList<;>rfl
def fF (a:World)(N:bw)(m:Mo)(g:Fn)(i:Ins):Prop:=∀W,bj a.heap.size a W->W.heap[N]?=oa (oB (jg m g) 184 (0,0))/\W.heap[N+1]?=oa (oB i.cells 42 (0,0))
theorem fF.next {a b:World}{N:bw}{m:Mo}{g:Fn}{i:Ins}(h:fF a N m g i)(hb:bj a.heap.size a b):fF b N m g i:=λW d=>h W (hb.trans (d.mono hb.size))
theorem fF.lt {a:World}{N:bw}{m:Mo}{g:Fn}{i:Ins}(h:fF a N m g i):N+1<a.heap.size:=(aw.1 (h a (an _ _)).2).1
def bP (m:Mo)(g:Fn)(i:Ins):ct:=
 if i.op=15 then jX m g.vs i
 else if i.op=16 then dS (isVar g.c.ins.length i.tI) 15
 else if i.op=17 then(if isVar g.c.ins.length i.tI&&isVar g.c.ins.length i.els then dN g.vs [i.a] else 15)
 else if i.op=18 then dS (aA g.vs i.a==g.ret) 7
 else ak m g.vs i
theorem rQ {m:Mo}{g:Fn}{i:Ins}(h:¬(i.op<1\/18<i.op)):bZ m g i=if gB g.vs.length (readsOf i++(if wO i.op then[i.d] else[]))=od then 15 else bP m g i:=cy h
theorem qj {n:bw}{l:bh ct}(h:gB n l=oc){v:ct}(a:v∈l):isVar n v=oc:=gS.1 h v a
theorem kU {i:Ins}{l:bh ct}(h:xV i.op=oc):i.a∈readsOf i++l:=by unfold readsOf;rw[cQ h];simp
theorem yV {i:Ins}{l:bh ct}(h:wP i.op=oc):i.b∈readsOf i++l:=by unfold readsOf;rw[cQ h];simp
theorem ql {i:Ins}{l:bh ct}(h:i.op=15){a:ct}(b:a∈i.args):a∈readsOf i++l:=by unfold readsOf;rw[cQ h];simp[b]
theorem wQ {i:Ins}(h:wO i.op=oc):i.d∈readsOf i++(if wO i.op then[i.d] else[]):=by rw[cQ h];simp
theorem tZ (m:Mo)(g:Fn)(i:Ins)(w:World)(h:Aa w m g i):
  zP 136 #[oA (jg m g),oA i.cells] w (Z U (bZ m g i)):=by
 have oX:=zH h;obtain⟨R,hR⟩:=zE (bZ m g i);rw[hR];have HR:=zH hR;clear h hR;obtain⟨N,hN⟩:=zE w.heap.size;obtain⟨W1,rj⟩:=zE ((w.alloc (oB (jg m g) 184)).alloc (oB i.cells 42));have sg:=oL rj hN;have ti:W1.heap.size=N+2:=by rw[<-rj];simp[hN]
 have sk:=uG rj hN;have rn:=wy rj hN;have i0:=zR rn 0 (Z U i.op);have rk:cr (fF W1 N m g i):=λW Y=>⟨iy Y sk,iy Y rn⟩
 have ro:=zH sg;have u:=zH hN;have tj:N+1<W1.heap.size:=by omega
 clear sg sk rn
 by_cases pZ:i.op<1\/18<i.op
 ·have f:cr (R=3):=by unfold cr;rw[<-HR.out];exact cQ pZ
  have rr:(fE i.op).toList.isEmpty=oc:=by rw[kg];simpa using pZ
  clear pZ;go_enter func136,ntmps136
  go_wp2_with (go_at_call 183;refine(iw _ _).mono ?_;rintro e w2 ⟨rfl,pp⟩;have pw:=zH pp;clear pp)
  go_ret;rw[f.out,u.out];exact⟨rfl,ro.out.trans (pw.out.mono (by omega))⟩
 have ph:=zH (rQ (m:=m) (g:=g) pZ);rw[HR.out] at ph;have sn:=zH pZ;have rr:(fE i.op).toList.isEmpty=od:=by
  rw[kg,er (by omega),er (by omega)];rfl
 clear pZ HR;have qr:cr (∀W,bj w.heap.size w W->et ac 144 #[oA i.cells] W (xW W (readsOf i))):=λW Y=>pJ i W (oX.out.ar.below Y) oX.out.al;have qe:cr (∀W,zP 142 #[oA i.cells] W (.tuple #[Z U (bO i).1,oy (bO i).2])):=λW=>nu i W oX.out.ar.1;have qk:cr ((readsOf i).length<=42):=tK i oX.out.al;obtain⟨rs,rv⟩:=zE (readsOf i);have rl:=zH rv;rw[rv] at qr qk;clear rv;go_enter func136,ntmps136;cases hd:wO i.op with
 |true=>
  have e1:(bO i).1=i.d:=by unfold bO;rw[hd];rfl
  have e2:(bO i).2=oc:=by unfold bO;rw[hd];rfl
  rw[e1,e2] at qe;clear e1 e2
  go_upto_region 6 with(first
   |(go_at_call 183;refine(iw _ _).mono ?_;rintro e w2 ⟨rfl,pp⟩;have pi:=zH (rk.out.next pp);have pw:cr (bj N w w2):=ro.out.trans (pp.mono (by omega));clear pp)
   |(refine cc rfl 42 _ rfl (N+1) rfl 42 i.cells (0,0) _ ((pi.out _ (an _ _)).2) cT rfl (by kernel_rfl) ?_)
   |(refine cc rfl 42 _ rfl (N+1) rfl 42 i.cells (0,0) _ ((px.out _ (an _ _)).2) cT rfl (by kernel_rfl) ?_)
   |(go_at_call 144;refine(qr.out _ (by rw[u.out];exact pw.out)).mono ?_;rintro e w3 ⟨qs,qt,rfl,qu,py⟩;have qv:=zH qu;have px:=zH (pi.out.next py);have qS:cr (bj N w w3):=pw.out.trans (py.mono (by have:=pi.out.lt;omega));have sB:=py.size;clear py qu)
   |(go_at_call 142;refine(qe.out _).mono ?_;rintro e w4 ⟨rfl,pj⟩;have so:=zH (px.out.next pj);have qn:=zH (ownsRow_below qv.out pj);have sq:cr (bj N w w4):=qS.out.trans (pj.mono (by have:=px.out.lt;omega));have sE:=pj.size;clear pj))
  go_upto_region 7 with(at_builtin;refine bD rfl (.tmp 20) (.tmp 22) rfl w2.heap.size (ot qs rs.length qt) rs rfl (ownsRow_below qn.out ((an _ _).alloc (bl _) _)) _ [i.d] 1 rfl (aV.one _ _ rfl) ?c1 ?c2 ?_)
  case c1=>have:=qk.out;simp;omega
  case c2=>simp;omega
  intro v5 w5 rm sr;obtain⟨sx,sy,rfl⟩:=rm.isSlice;have qq:bj w2.heap.size w4 w5:=below_grown (v:= ot qs rs.length qt) (xs:=rs) ((an _ _).alloc (by omega) _) (by simp;omega) (ownsRow_below qn.out ((an _ _).alloc (bl _) _)) sr;have sL:=pi.out.lt;have pH:cr (bj N w w5):=sq.out.trans (qq.mono (by omega));have pL:cr (fF w5 N m g i):=λW Y=>by
   have q:=so.out w4 (an _ _);have h5:=qq.size;exact⟨(Y.block N (by omega)).trans ((qq.block N (by omega)).trans q.1),(Y.block (N+1) (by omega)).trans ((qq.block (N+1) (by omega)).trans q.2)⟩
  have sR:=qq.size;obtain⟨L5,qT⟩:=zE (rs++[i.d]);rw[qT] at rm;have HL:cr (L5=readsOf i++(if wO i.op then[i.d] else[])):=by unfold cr;rw[hd,rl.out,<-qT];rfl
  have pB:cr (zP 184 #[oA (jg m g),ot sx L5.length sy] w5 (oy (gB g.vs.length L5))):=
   lM m g sx L5 sy w5 oX.out.j.nv (by have:=qk.out;rw[<-qT];unfold cX;simp;omega) rm.at_
  rw[<-HL.out] at ph;rw[qT];have sT:=zH hd;clear rm sr qq qv qn pi px so rk pw qS sq qT qr qe qk rl rr i0 hd;have pN:=zH (pL.out w5 (an _ _));obtain⟨tb,pD⟩:=zE (gB g.vs.length L5);rw[pD] at pB;rw[pD] at ph;have ra:=zH pD;clear pD;cases tb with
  |false=>
   have f:cr (R=15):=ph.out
   go_wp2_with (first
    |(refine cc rfl 184 _ rfl N rfl 184 (jg m g) (0,0) _ (pN.out.1) cj rfl (by kernel_rfl) ?_)
    |(go_at_call 184;refine pB.out.mono ?_;rintro e b ⟨rfl,pk⟩;have pl:=zH pk;clear pk))
   go_ret;rw[f.out,u.out];exact⟨rfl,pH.out.trans (pl.out.mono (by omega))⟩
  |true=>
   have D:cr (R=bP m g i):=ph.out;clear ph
   go_upto_region 9 with(first
    |(refine cc rfl 184 _ rfl N rfl 184 (jg m g) (0,0) _ (pN.out.1) cj rfl (by kernel_rfl) ?_)
    |(go_at_call 184;refine pB.out.mono ?_;rintro e b ⟨rfl,pk⟩;have pl:=zH pk;clear pk))
   have pm:cr (fF b N m g i):=pL.out.next pl.out
   have oS:cr (bj N w b):=pH.out.trans (pl.out.mono (by omega));have sX:=pm.out.lt;have G:=zH (pm.out b (an _ _));have pn:cr (yK b m g):=oX.out.j.below (by rw[u.out];exact oS.out);have z0:=zR G.out.2 0 (Z U i.op);have z2:=zR G.out.2 2 (Z U i.a);have z9:=zR G.out.2 9 (Z U i.tI);have rb:=zR G.out.2 10 (Z U i.els);have oY:cr (∀v∈L5,isVar g.vs.length v=oc):=λv hv=>qj ra.out hv;clear pL pB pl pH pN ra
   by_cases J:i.op=15
   ·have f:cr (R=jX m g.vs i):=by unfold cr;rw[D.out];exact cQ J
    have rx:cr (zP 185 #[oA (jg m g),oA i.cells] b (Z U (jX m g.vs i))):=
     nD m g i b pn.out (oX.out.ar.below (by rw[u.out];exact oS.out)) (by have:=oX.out.al;unfold cX;omega) (oY.out _ (by rw[HL.out];exact wQ (by rw[J];rfl))) (λa ha=>oY.out a (by rw[HL.out];exact ql J ha))
    rw[J] at z0;clear D
    go_wp2_with (first
     |(refine cc rfl 184 _ rfl N rfl 184 (jg m g) (0,0) _ (G.out.1) cj rfl (by kernel_rfl) ?_)
     |(refine cc rfl 42 _ rfl (N+1) rfl 42 i.cells (0,0) _ (G.out.2) cT rfl (by kernel_rfl) ?_)
     |(go_at_call 185;refine rx.out.mono ?_;rintro e o ⟨rfl,A⟩;have pb:=zH A;clear A))
    go_ret;rw[f.out,u.out];exact⟨rfl,oS.out.trans (pb.out.mono (by omega))⟩
   have sY:(i.op==15)=od:=by rw[cL];exact J
   by_cases pc:i.op=16
   ·have f:cr (R=dS (isVar g.c.ins.length i.tI) 15):=by unfold cr;rw[D.out];unfold bP;rw[cy J,cQ pc]
    rw[pc] at z0;clear D
    go_wp2_with (first
     |(refine cc rfl 184 _ rfl N rfl 184 (jg m g) (0,0) _ (G.out.1) cj rfl (by kernel_rfl) ?_)
     |(go_at_call 186;refine(dV m g i.tI b).mono ?_;rintro e o ⟨rfl,A⟩;have pb:=zH A;clear A)
     |(go_at_call 99;refine(av _ _ _).mono ?_;rintro e w8 ⟨rfl,rfl⟩))
    go_ret;rw[f.out,u.out];exact⟨rfl,oS.out.trans (pb.out.mono (by omega))⟩
   have ta:(i.op==16)=od:=by rw[cL];exact pc
   by_cases pd:i.op=17
   ·have f:cr (R=if isVar g.c.ins.length i.tI&&isVar g.c.ins.length i.els then dN g.vs [i.a] else 15):=by unfold cr;rw[D.out];unfold bP;rw[cy J,cy pc,cQ pd]
    have pP:cr (isVar g.vs.length i.a=oc):=oY.out _ (by rw[HL.out];exact kU (by rw[pd];rfl));rw[pd] at z0;obtain⟨t1,rB⟩:=zE (isVar g.c.ins.length i.tI);obtain⟨t2,rI⟩:=zE (isVar g.c.ins.length i.els);rw[rB,rI] at f;clear D;cases t1 with
    |false=>
     go_wp2_with (first
      |(refine cc rfl 184 _ rfl N rfl 184 (jg m g) (0,0) _ (G.out.1) cj rfl (by kernel_rfl) ?_)
      |(go_at_call 186;refine(dV m g _ _).mono ?_;rintro e o ⟨rfl,A⟩;have pb:=zH A;clear A))
     go_ret;rw[f.out,u.out];exact⟨rfl,oS.out.trans (pb.out.mono (by omega))⟩
    |true=>
     have rc:cr (∀(W:World)(v:ct),fF W N m g i->bj N w W->et ac 186 #[oA (jg m g),Z U v] W λe w'=>e= oE (oy (isVar g.c.ins.length v))/\fF w' N m g i/\bj N w w'):=λW v Y hB=>(dV m g v W).mono (by
      rintro e w' ⟨rfl,hb⟩;exact⟨rfl,Y.next hb,hB.trans (hb.mono (by have:=Y.lt;omega))⟩)
     have oR:=pm;have oT:=oS;cases t2 with
     |false=>
      go_wp2_with (first
       |(refine cc rfl 184 _ rfl N rfl 184 (jg m g) (0,0) _ ((oR.out _ (an _ _)).1) cj rfl (by kernel_rfl) ?_)
       |(go_at_call 186;refine(rc.out _ _ oR.out oT.out).mono ?_;clear oR oT;rintro e o ⟨rfl,y,po⟩;have rK:=y.lt;obtain⟨y0,y1,y2,y3,y4,y5,y6,y7,y8,y9⟩:=fO.of (y o (an _ _)).1;have rb:o.cell? ⟨N+1,10,ob⟩=oa (Z U i.els):=ci _ _ _ _ _ _ (y o (an _ _)).2;have oR:=zH y;have oT:=zH po;clear y po))
      go_ret;rw[f.out,u.out];exact⟨rfl,oT.out⟩
     |true=>
      have rL:cr (∀(W:World),fF W N m g i->bj N w W->et ac 187 #[oA (jg m g),ot (oa ⟨W.heap.size,0,ob⟩) 1 1] (W.alloc (oB #[Z U i.a] 3)) λe w'=>e= oE (Z U (dN g.vs [i.a]))/\bj N w w'):=by
       intro W Y hB;have re:bj N w (W.alloc (oB #[Z U i.a] 3)):=hB.alloc (by have:=Y.lt;omega) _;have hj:=oX.out.j.below (by rw[u.out];exact re);refine(bE m g (oa ⟨W.heap.size,0,ob⟩) [i.a] 1 (W.alloc (oB #[Z U i.a] 3)) hj.vars hj.nv hj.vl (by unfold cX;simp) tX (by simp;exact pP.out)).mono ?_;rintro e w' ⟨rfl,hb⟩;exact⟨rfl,re.trans (hb.mono (by have:=Y.lt;simp;omega))⟩
      go_wp2_with (first
       |(refine cc rfl 184 _ rfl N rfl 184 (jg m g) (0,0) _ ((oR.out _ (an _ _)).1) cj rfl (by kernel_rfl) ?_)
       |(go_at_call 186;refine(rc.out _ _ oR.out oT.out).mono ?_;clear oR oT;rintro e o ⟨rfl,y,po⟩;have rK:=y.lt;obtain⟨y0,y1,y2,y3,y4,y5,y6,y7,y8,y9⟩:=fO.of (y o (an _ _)).1;have rb:o.cell? ⟨N+1,10,ob⟩=oa (Z U i.els):=ci _ _ _ _ _ _ (y o (an _ _)).2;have z2:o.cell? ⟨N+1,2,ob⟩=oa (Z U i.a):=ci _ _ _ _ _ _ (y o (an _ _)).2;have oR:=zH y;have oT:=zH po;clear y po)
       |(go_at_call 187;refine(rL.out _ oR.out oT.out).mono ?_;rintro e w9 ⟨rfl,rh⟩;have rN:=zH rh;clear rh))
      go_ret;rw[f.out,u.out];exact⟨rfl,rN.out⟩
   have tc:(i.op==17)=od:=by rw[cL];exact pd
   by_cases pf:i.op=18
   ·have f:cr (R=dS (aA g.vs i.a==g.ret) 7):=by unfold cr;rw[D.out];unfold bP;rw[cy J,cy pc,cy pd,cQ pf]
    have pP:cr (isVar g.vs.length i.a=oc):=oY.out _ (by rw[HL.out];exact kU (by rw[pf];rfl));rw[pf] at z0;obtain⟨⟨ba,sa⟩,pS⟩:∃t,aA g.vs i.a=t:=⟨_,rfl⟩
    obtain⟨d,pT⟩:=zE (((ba,sa):Ty)==(g.c.rp,g.c.rto));have te:∀w,(js 10000 32 (oA #[oy ba,oe sa]) (oA #[oy g.c.rp,oe g.c.rto])).run ac w= .ok d w:=λw=>by rw[il,pT]
    have rS:cr (R=dS d 7):=by unfold cr;rw[f.out,pS,<-pT];rfl
    have se:cr (∀p:BW b,zP 188 #[oA #[ot m.sA m.ss.length m.sC,ot m.fA m.fs.length m.fC,oe g.c.nm,Z U g.c.par,ot g.c.varsA g.c.nvars g.c.varsC,oy g.c.rp,oe g.c.rto,Z U g.c.rcl,ot g.c.fromA g.c.nfrom g.c.fromC,ot g.c.insA g.c.ins.length g.c.insC],Z U i.a] p.w (oA #[oy ba,oe sa])):=λp=>by
     have:=dU m g i.a p.w (pn.out.below p.h).vars pn.out.nv pn.out.vl pP.out;rw[pS] at this;exact this
    have K:cr (∀p:BW b,fO p.w N m g):=λp=>fO.of (pm.out p.w p.h).1;have k0:∀p:BW b,p.w.cell? ⟨N,0,ob⟩=oa (ot m.sA m.ss.length m.sC):=λp=>(K.out p).1;have k1:∀p:BW b,p.w.cell? ⟨N,1,ob⟩=oa (ot m.fA m.fs.length m.fC):=λp=>(K.out p).2.1;have k2:∀p:BW b,p.w.cell? ⟨N,2,ob⟩=oa (oe g.c.nm):=λp=>(K.out p).2.2.1;have k3:∀p:BW b,p.w.cell? ⟨N,3,ob⟩=oa (Z U g.c.par):=λp=>(K.out p).2.2.2.1;have k4:∀p:BW b,p.w.cell? ⟨N,4,ob⟩=oa (ot g.c.varsA g.c.nvars g.c.varsC):=λp=>(K.out p).2.2.2.2.1;have k5:∀p:BW b,p.w.cell? ⟨N,5,ob⟩=oa (oy g.c.rp):=λp=>(K.out p).2.2.2.2.2.1;have k6:∀p:BW b,p.w.cell? ⟨N,6,ob⟩=oa (oe g.c.rto):=λp=>(K.out p).2.2.2.2.2.2.1;have k7:∀p:BW b,p.w.cell? ⟨N,7,ob⟩=oa (Z U g.c.rcl):=λp=>(K.out p).2.2.2.2.2.2.2.1;have k8:∀p:BW b,p.w.cell? ⟨N,8,ob⟩=oa (ot g.c.fromA g.c.nfrom g.c.fromC):=λp=>(K.out p).2.2.2.2.2.2.2.2.1;have k9:∀p:BW b,p.w.cell? ⟨N,9,ob⟩=oa (ot g.c.insA g.c.ins.length g.c.insC):=λp=>(K.out p).2.2.2.2.2.2.2.2.2;have tf:∀p:BW b,p.w.cell? ⟨N+1,2,ob⟩=oa (Z U i.a):=λp=>by rw[ci _ _ _ _ _ _ (pm.out p.w p.h).2];rfl
    clear D pS pT f;go_wp2;refine zQ ?_
    repeat (go_big_quiet_step (first
     |(go_at_call 188;exact bn (se.out _))
     |(go_at_call 99;exact fP (av _ _ _))))
    refine eC ?_;rintro _ ⟨p,rfl⟩;go_wp2;go_ret;rw[rS.out,u.out];exact⟨rfl,oS.out.trans (p.h.mono (by omega))⟩
   have th:(i.op==18)=od:=by rw[cL];exact pf
   have f:cr (R=ak m g.vs i):=by unfold cr;rw[D.out];unfold bP;rw[cy J,cy pc,cy pd,cy pf]
   have sf:cr (zP 189 #[oA (jg m g),oA i.cells] b (Z U (ak m g.vs i))):=
    lQ m g i b (by have:=sn.out;omega) ⟨pn.out,λh=>oY.out _ (by rw[HL.out];exact wQ h),λh=>oY.out _ (by rw[HL.out];exact kU h),λh=>oY.out _ (by rw[HL.out];exact yV h),oX.out.kn⟩
   clear D J pc pd pf
   go_wp2_with (first
    |(refine cc rfl 184 _ rfl N rfl 184 (jg m g) (0,0) _ (G.out.1) cj rfl (by kernel_rfl) ?_)
    |(refine cc rfl 42 _ rfl (N+1) rfl 42 i.cells (0,0) _ (G.out.2) cT rfl (by kernel_rfl) ?_)
    |(go_at_call 189;refine sf.out.mono ?_;rintro e o ⟨rfl,A⟩;have pb:=zH A;clear A))
   go_ret;rw[f.out,u.out];exact⟨rfl,oS.out.trans (pb.out.mono (by omega))⟩
 |false=>
  have e1:(bO i).1=0:=by unfold bO;rw[hd];rfl
  have e2:(bO i).2=od:=by unfold bO;rw[hd];rfl
  rw[e1,e2] at qe;clear e1 e2
  go_upto_region 7 with(first
   |(go_at_call 183;refine(iw _ _).mono ?_;rintro e w2 ⟨rfl,pp⟩;have pi:=zH (rk.out.next pp);have pw:cr (bj N w w2):=ro.out.trans (pp.mono (by omega));clear pp)
   |(refine cc rfl 42 _ rfl (N+1) rfl 42 i.cells (0,0) _ ((pi.out _ (an _ _)).2) cT rfl (by kernel_rfl) ?_)
   |(refine cc rfl 42 _ rfl (N+1) rfl 42 i.cells (0,0) _ ((px.out _ (an _ _)).2) cT rfl (by kernel_rfl) ?_)
   |(go_at_call 144;refine(qr.out _ (by rw[u.out];exact pw.out)).mono ?_;rintro e w3 ⟨qs,qt,rfl,qu,py⟩;have qv:=zH qu;have px:=zH (pi.out.next py);have qS:cr (bj N w w3):=pw.out.trans (py.mono (by have:=pi.out.lt;omega));have sB:=py.size;clear py qu)
   |(go_at_call 142;refine(qe.out _).mono ?_;rintro e w5 ⟨rfl,pj⟩;have pL:=zH (px.out.next pj);have qn:=zH (ownsRow_below qv.out pj);have pH:cr (bj N w w5):=qS.out.trans (pj.mono (by have:=px.out.lt;omega));have sE:=pj.size;clear pj))
  have HL:cr (rs=readsOf i++(if wO i.op then[i.d] else[])):=by unfold cr;rw[hd,rl.out];simp
  have pB:cr (zP 184 #[oA (jg m g),ot qs rs.length qt] w5 (oy (gB g.vs.length rs))):=
   lM m g qs rs qt w5 oX.out.j.nv (by have:=qk.out;unfold cX;omega) (bq.at_ qn.out)
  rw[<-HL.out] at ph;have sT:=zH hd;have sL:=pi.out.lt;have sR:w2.heap.size<=w5.heap.size:=by omega
  clear qv qn pi px rk pw qS qr qe qk rl rr i0 hd;have pN:=zH (pL.out w5 (an _ _));obtain⟨tb,pD⟩:=zE (gB g.vs.length rs);rw[pD] at pB;rw[pD] at ph;have ra:=zH pD;clear pD;cases tb with
  |false=>
   have f:cr (R=15):=ph.out
   go_wp2_with (first
    |(refine cc rfl 184 _ rfl N rfl 184 (jg m g) (0,0) _ (pN.out.1) cj rfl (by kernel_rfl) ?_)
    |(go_at_call 184;refine pB.out.mono ?_;rintro e b ⟨rfl,pk⟩;have pl:=zH pk;clear pk))
   go_ret;rw[f.out,u.out];exact⟨rfl,pH.out.trans (pl.out.mono (by omega))⟩
  |true=>
   have D:cr (R=bP m g i):=ph.out;clear ph
   go_upto_region 9 with(first
    |(refine cc rfl 184 _ rfl N rfl 184 (jg m g) (0,0) _ (pN.out.1) cj rfl (by kernel_rfl) ?_)
    |(go_at_call 184;refine pB.out.mono ?_;rintro e b ⟨rfl,pk⟩;have pl:=zH pk;clear pk))
   have pm:cr (fF b N m g i):=pL.out.next pl.out
   have oS:cr (bj N w b):=pH.out.trans (pl.out.mono (by omega));have sX:=pm.out.lt;have G:=zH (pm.out b (an _ _));have pn:cr (yK b m g):=oX.out.j.below (by rw[u.out];exact oS.out);have z0:=zR G.out.2 0 (Z U i.op);have z2:=zR G.out.2 2 (Z U i.a);have z9:=zR G.out.2 9 (Z U i.tI);have rb:=zR G.out.2 10 (Z U i.els);have oY:cr (∀v∈rs,isVar g.vs.length v=oc):=λv hv=>qj ra.out hv;clear pL pB pl pH pN ra
   by_cases J:i.op=15
   ·have f:cr (R=jX m g.vs i):=by unfold cr;rw[D.out];exact cQ J
    have rx:cr (zP 185 #[oA (jg m g),oA i.cells] b (Z U (jX m g.vs i))):=
     nD m g i b pn.out (oX.out.ar.below (by rw[u.out];exact oS.out)) (by have:=oX.out.al;unfold cX;omega) (oY.out _ (by rw[HL.out];exact wQ (by rw[J];rfl))) (λa ha=>oY.out a (by rw[HL.out];exact ql J ha))
    rw[J] at z0;clear D
    go_wp2_with (first
     |(refine cc rfl 184 _ rfl N rfl 184 (jg m g) (0,0) _ (G.out.1) cj rfl (by kernel_rfl) ?_)
     |(refine cc rfl 42 _ rfl (N+1) rfl 42 i.cells (0,0) _ (G.out.2) cT rfl (by kernel_rfl) ?_)
     |(go_at_call 185;refine rx.out.mono ?_;rintro e o ⟨rfl,A⟩;have pb:=zH A;clear A))
    go_ret;rw[f.out,u.out];exact⟨rfl,oS.out.trans (pb.out.mono (by omega))⟩
   have sY:(i.op==15)=od:=by rw[cL];exact J
   by_cases pc:i.op=16
   ·have f:cr (R=dS (isVar g.c.ins.length i.tI) 15):=by unfold cr;rw[D.out];unfold bP;rw[cy J,cQ pc]
    rw[pc] at z0;clear D
    go_wp2_with (first
     |(refine cc rfl 184 _ rfl N rfl 184 (jg m g) (0,0) _ (G.out.1) cj rfl (by kernel_rfl) ?_)
     |(go_at_call 186;refine(dV m g i.tI b).mono ?_;rintro e o ⟨rfl,A⟩;have pb:=zH A;clear A)
     |(go_at_call 99;refine(av _ _ _).mono ?_;rintro e w8 ⟨rfl,rfl⟩))
    go_ret;rw[f.out,u.out];exact⟨rfl,oS.out.trans (pb.out.mono (by omega))⟩
   have ta:(i.op==16)=od:=by rw[cL];exact pc
   by_cases pd:i.op=17
   ·have f:cr (R=if isVar g.c.ins.length i.tI&&isVar g.c.ins.length i.els then dN g.vs [i.a] else 15):=by unfold cr;rw[D.out];unfold bP;rw[cy J,cy pc,cQ pd]
    have pP:cr (isVar g.vs.length i.a=oc):=oY.out _ (by rw[HL.out];exact kU (by rw[pd];rfl));rw[pd] at z0;obtain⟨t1,rB⟩:=zE (isVar g.c.ins.length i.tI);obtain⟨t2,rI⟩:=zE (isVar g.c.ins.length i.els);rw[rB,rI] at f;clear D;cases t1 with
    |false=>
     go_wp2_with (first
      |(refine cc rfl 184 _ rfl N rfl 184 (jg m g) (0,0) _ (G.out.1) cj rfl (by kernel_rfl) ?_)
      |(go_at_call 186;refine(dV m g _ _).mono ?_;rintro e o ⟨rfl,A⟩;have pb:=zH A;clear A))
     go_ret;rw[f.out,u.out];exact⟨rfl,oS.out.trans (pb.out.mono (by omega))⟩
    |true=>
     have rc:cr (∀(W:World)(v:ct),fF W N m g i->bj N w W->et ac 186 #[oA (jg m g),Z U v] W λe w'=>e= oE (oy (isVar g.c.ins.length v))/\fF w' N m g i/\bj N w w'):=λW v Y hB=>(dV m g v W).mono (by
      rintro e w' ⟨rfl,hb⟩;exact⟨rfl,Y.next hb,hB.trans (hb.mono (by have:=Y.lt;omega))⟩)
     have oR:=pm;have oT:=oS;cases t2 with
     |false=>
      go_wp2_with (first
       |(refine cc rfl 184 _ rfl N rfl 184 (jg m g) (0,0) _ ((oR.out _ (an _ _)).1) cj rfl (by kernel_rfl) ?_)
       |(go_at_call 186;refine(rc.out _ _ oR.out oT.out).mono ?_;clear oR oT;rintro e o ⟨rfl,y,po⟩;have rK:=y.lt;obtain⟨y0,y1,y2,y3,y4,y5,y6,y7,y8,y9⟩:=fO.of (y o (an _ _)).1;have rb:o.cell? ⟨N+1,10,ob⟩=oa (Z U i.els):=ci _ _ _ _ _ _ (y o (an _ _)).2;have oR:=zH y;have oT:=zH po;clear y po))
      go_ret;rw[f.out,u.out];exact⟨rfl,oT.out⟩
     |true=>
      have rL:cr (∀(W:World),fF W N m g i->bj N w W->et ac 187 #[oA (jg m g),ot (oa ⟨W.heap.size,0,ob⟩) 1 1] (W.alloc (oB #[Z U i.a] 3)) λe w'=>e= oE (Z U (dN g.vs [i.a]))/\bj N w w'):=by
       intro W Y hB;have re:bj N w (W.alloc (oB #[Z U i.a] 3)):=hB.alloc (by have:=Y.lt;omega) _;have hj:=oX.out.j.below (by rw[u.out];exact re);refine(bE m g (oa ⟨W.heap.size,0,ob⟩) [i.a] 1 (W.alloc (oB #[Z U i.a] 3)) hj.vars hj.nv hj.vl (by unfold cX;simp) tX (by simp;exact pP.out)).mono ?_;rintro e w' ⟨rfl,hb⟩;exact⟨rfl,re.trans (hb.mono (by have:=Y.lt;simp;omega))⟩
      go_wp2_with (first
       |(refine cc rfl 184 _ rfl N rfl 184 (jg m g) (0,0) _ ((oR.out _ (an _ _)).1) cj rfl (by kernel_rfl) ?_)
       |(go_at_call 186;refine(rc.out _ _ oR.out oT.out).mono ?_;clear oR oT;rintro e o ⟨rfl,y,po⟩;have rK:=y.lt;obtain⟨y0,y1,y2,y3,y4,y5,y6,y7,y8,y9⟩:=fO.of (y o (an _ _)).1;have rb:o.cell? ⟨N+1,10,ob⟩=oa (Z U i.els):=ci _ _ _ _ _ _ (y o (an _ _)).2;have z2:o.cell? ⟨N+1,2,ob⟩=oa (Z U i.a):=ci _ _ _ _ _ _ (y o (an _ _)).2;have oR:=zH y;have oT:=zH po;clear y po)
       |(go_at_call 187;refine(rL.out _ oR.out oT.out).mono ?_;rintro e w9 ⟨rfl,rh⟩;have rN:=zH rh;clear rh))
      go_ret;rw[f.out,u.out];exact⟨rfl,rN.out⟩
   have tc:(i.op==17)=od:=by rw[cL];exact pd
   by_cases pf:i.op=18
   ·have f:cr (R=dS (aA g.vs i.a==g.ret) 7):=by unfold cr;rw[D.out];unfold bP;rw[cy J,cy pc,cy pd,cQ pf]
    have pP:cr (isVar g.vs.length i.a=oc):=oY.out _ (by rw[HL.out];exact kU (by rw[pf];rfl));rw[pf] at z0;obtain⟨⟨ba,sa⟩,pS⟩:∃t,aA g.vs i.a=t:=⟨_,rfl⟩
    obtain⟨d,pT⟩:=zE (((ba,sa):Ty)==(g.c.rp,g.c.rto));have te:∀w,(js 10000 32 (oA #[oy ba,oe sa]) (oA #[oy g.c.rp,oe g.c.rto])).run ac w= .ok d w:=λw=>by rw[il,pT]
    have rS:cr (R=dS d 7):=by unfold cr;rw[f.out,pS,<-pT];rfl
    have se:cr (∀p:BW b,zP 188 #[oA #[ot m.sA m.ss.length m.sC,ot m.fA m.fs.length m.fC,oe g.c.nm,Z U g.c.par,ot g.c.varsA g.c.nvars g.c.varsC,oy g.c.rp,oe g.c.rto,Z U g.c.rcl,ot g.c.fromA g.c.nfrom g.c.fromC,ot g.c.insA g.c.ins.length g.c.insC],Z U i.a] p.w (oA #[oy ba,oe sa])):=λp=>by
     have:=dU m g i.a p.w (pn.out.below p.h).vars pn.out.nv pn.out.vl pP.out;rw[pS] at this;exact this
    have K:cr (∀p:BW b,fO p.w N m g):=λp=>fO.of (pm.out p.w p.h).1;have k0:∀p:BW b,p.w.cell? ⟨N,0,ob⟩=oa (ot m.sA m.ss.length m.sC):=λp=>(K.out p).1;have k1:∀p:BW b,p.w.cell? ⟨N,1,ob⟩=oa (ot m.fA m.fs.length m.fC):=λp=>(K.out p).2.1;have k2:∀p:BW b,p.w.cell? ⟨N,2,ob⟩=oa (oe g.c.nm):=λp=>(K.out p).2.2.1;have k3:∀p:BW b,p.w.cell? ⟨N,3,ob⟩=oa (Z U g.c.par):=λp=>(K.out p).2.2.2.1;have k4:∀p:BW b,p.w.cell? ⟨N,4,ob⟩=oa (ot g.c.varsA g.c.nvars g.c.varsC):=λp=>(K.out p).2.2.2.2.1;have k5:∀p:BW b,p.w.cell? ⟨N,5,ob⟩=oa (oy g.c.rp):=λp=>(K.out p).2.2.2.2.2.1;have k6:∀p:BW b,p.w.cell? ⟨N,6,ob⟩=oa (oe g.c.rto):=λp=>(K.out p).2.2.2.2.2.2.1;have k7:∀p:BW b,p.w.cell? ⟨N,7,ob⟩=oa (Z U g.c.rcl):=λp=>(K.out p).2.2.2.2.2.2.2.1;have k8:∀p:BW b,p.w.cell? ⟨N,8,ob⟩=oa (ot g.c.fromA g.c.nfrom g.c.fromC):=λp=>(K.out p).2.2.2.2.2.2.2.2.1;have k9:∀p:BW b,p.w.cell? ⟨N,9,ob⟩=oa (ot g.c.insA g.c.ins.length g.c.insC):=λp=>(K.out p).2.2.2.2.2.2.2.2.2;have tf:∀p:BW b,p.w.cell? ⟨N+1,2,ob⟩=oa (Z U i.a):=λp=>by rw[ci _ _ _ _ _ _ (pm.out p.w p.h).2];rfl
    clear D pS pT f;go_wp2;refine zQ ?_
    repeat (go_big_quiet_step (first
     |(go_at_call 188;exact bn (se.out _))
     |(go_at_call 99;exact fP (av _ _ _))))
    refine eC ?_;rintro _ ⟨p,rfl⟩;go_wp2;go_ret;rw[rS.out,u.out];exact⟨rfl,oS.out.trans (p.h.mono (by omega))⟩
   have th:(i.op==18)=od:=by rw[cL];exact pf
   have f:cr (R=ak m g.vs i):=by unfold cr;rw[D.out];unfold bP;rw[cy J,cy pc,cy pd,cy pf]
   have sf:cr (zP 189 #[oA (jg m g),oA i.cells] b (Z U (ak m g.vs i))):=
    lQ m g i b (by have:=sn.out;omega) ⟨pn.out,λh=>oY.out _ (by rw[HL.out];exact wQ h),λh=>oY.out _ (by rw[HL.out];exact kU h),λh=>oY.out _ (by rw[HL.out];exact yV h),oX.out.kn⟩
   clear D J pc pd pf
   go_wp2_with (first
    |(refine cc rfl 184 _ rfl N rfl 184 (jg m g) (0,0) _ (G.out.1) cj rfl (by kernel_rfl) ?_)
    |(refine cc rfl 42 _ rfl (N+1) rfl 42 i.cells (0,0) _ (G.out.2) cT rfl (by kernel_rfl) ?_)
    |(go_at_call 189;refine sf.out.mono ?_;rintro e o ⟨rfl,A⟩;have pb:=zH A;clear A))
   go_ret;rw[f.out,u.out];exact⟨rfl,oS.out.trans (pb.out.mono (by omega))⟩
theorem kV {α:Type}{f:α->ct}:∀{l:bh α}{j:bw}{x:α},(∀y∈l.take j,f y=0)->l[j]?=oa x->f x≠0->aW f l=f x
 |[],j,x,_,h,_=>by simp at h
 |y::r,0,x,_,h,a=>by
  simp at h;subst h;unfold aW;rw[cy a]
 |y::r,j+1,x,b,h,a=>by
  unfold aW;rw[cQ (b y (by simp))];exact kV (j:=j) (λz d=>b z (by simp[d])) (by simpa using h) a
theorem iU {α:Type}{f:α->ct}:∀{l:bh α},(∀y∈l,f y=0)->aW f l=0
 |[],_=>rfl
 |y::r,h=>by
  unfold aW;rw[cQ (h y (by simp))];exact iU λz a=>h z (by simp[a])
theorem pO {i:Ins}(h:i.ok):(i.cells.all λx=>x.oneCell')=oc:=by
 obtain⟨⟨d,cap,a⟩,f,n2,g,b⟩:=h;rw[<-gi];simp[Ins.cells,bp,a,b]
structure AR (w:World)(m:Mo)(g:Fn):Prop where
 mo:m.inn w
 fn:g.inn w
 al:∀i∈g.c.ins,i.args.length<=40
 kn:∀v,isVar g.vs.length v=oc->m.known (aA g.vs v)=oc
theorem vH (m:Mo)(g:Fn)(w:World)(h:AR w m g):
  zP 97 #[oA (jg m g)] w (Z U (codeF m g)):=by
 have pw:cr (∀i∈g.c.ins,∀W,bj w.heap.size w W->zP 136 #[oA (jg m g),oA i.cells] W (Z U (bZ m g i))):=λi a W hW=>
  tZ m g i W ⟨(yM h.mo h.fn).below hW,(h.fn.code.args i a).below hW,h.al i a,h.kn⟩
 have pk:=zH h.fn.code.row;have px:cr (∀i∈g.c.ins,i.ok):=λi a=>(h.fn.code.args i a).1;have pl:=h.fn.nvars;have py:=(yM h.mo h.fn).vl;unfold cX at py;obtain⟨R,hR⟩:=zE (codeF m g);have d:cr (R=if 300<g.vs.length\/g.c.ins.length<1\/3000<g.c.ins.length then 2
  else if g.c.par<0\/(g.vs.length:ct)<g.c.par then 15
  else if aW (bZ m g) g.c.ins≠0 then aW (bZ m g) g.c.ins
  else dS (match g.c.ins.getLast? with
   |some i=>decide (16<=i.op)
   |none=>od) 15):=hR.symm
 rw[hR];clear h hR;obtain⟨N,Y⟩:=zE w.heap.size;obtain⟨o,oX⟩:=zE (w.alloc (oB (jg m g) 184));have pm:=gq oX Y;have pB:o.heap.size=N+1:=by rw[<-oX];simp[Y]
 have D:o.heap[N]?=oa (oB (jg m g) 184 (0,0)):=by rw[<-oX,<-Y];exact alloc_at _ _
 have q3:=zR D 3 (Z U g.c.par);have q4:o.cell? ⟨N,4,ob⟩=oa (ot g.c.varsA g.vs.length g.c.varsC):=by rw[ci _ _ _ _ _ _ D,<-pl];rfl
 have q9:=zR D 9 (ot g.c.insA g.c.ins.length g.c.insC);have y:=zH pm;have v:=zH Y;have pD:=zH D;have pP:=zH pB;have pH:N<o.heap.size:=by omega
 clear pm D pl
 by_cases c1:300<g.vs.length
 ·have b:cr (R=2):=by unfold cr;rw[d.out,cQ (.inl c1)]
  clear d;go_enter ke,jn;go_wp2;go_ret;rw[b.out]
  try rw[v.out]
  exact⟨rfl,y.out⟩
 by_cases c2:g.c.ins.length<1
 ·have b:cr (R=2):=by unfold cr;rw[d.out,cQ (.inr (.inl c2))]
  clear d;go_enter ke,jn;go_wp2;go_ret;rw[b.out]
  try rw[v.out]
  exact⟨rfl,y.out⟩
 by_cases c3:3000<g.c.ins.length
 ·have b:cr (R=2):=by unfold cr;rw[d.out,cQ (.inr (.inr c3))]
  clear d;go_enter ke,jn;go_wp2;go_ret;rw[b.out]
  try rw[v.out]
  exact⟨rfl,y.out⟩
 by_cases c4:g.c.par<0
 ·have b:cr (R=15):=by unfold cr;rw[d.out,cy (by omega),cQ (.inl c4)]
  clear d;go_enter ke,jn;go_wp2;go_ret;rw[b.out]
  try rw[v.out]
  exact⟨rfl,y.out⟩
 by_cases c5:(g.vs.length:ct)<g.c.par
 ·have b:cr (R=15):=by unfold cr;rw[d.out,cy (by omega),cQ (.inr c5)]
  clear d;go_enter ke,jn;go_wp2;go_ret;rw[b.out]
  try rw[v.out]
  exact⟨rfl,y.out⟩
 have oY:cr (R=if aW (bZ m g) g.c.ins≠0 then aW (bZ m g) g.c.ins
  else dS (match g.c.ins.getLast? with
   |some i=>decide (16<=i.op)
   |none=>od) 15):=by unfold cr;rw[d.out,cy (by omega),cy (by omega)]
 clear d;go_enter ke,jn
 go_upto_region 8 with(refine cc rfl 184 _ rfl N rfl 184 (jg m g) (0,0) _ pD.out cj rfl (by kernel_rfl) ?_)
 go_loopw [47] (λc wr=>∃j:bw,j<=g.c.ins.length/\c= Z U (j:ct)/\(∀x∈g.c.ins.take j,bZ m g x=0)/\bj o.heap.size o wr) (λc _=>g.c.ins.length-(intOf c).toNat)
 case atStart=>exact⟨0,da _,rfl,by simp,an _ _⟩
 case round=>
  obtain⟨j,hj,rfl,G,hb⟩:=hrel;have HB:=zH hb;have HZ:=zH G;have oR:cr (bj N w wr):=y.out.trans (hb.mono (by omega))
  by_cases pb:j<g.c.ins.length
  ·obtain⟨i,a⟩:∃i,g.c.ins[j]?=oa i:=⟨_,ce pb⟩
   have pc:=cA a;obtain⟨q,A,hA,pn,J⟩:=pk.out (by intro e;rw[e] at pb;simp at pb);have pd:q<N:=by omega
   have po:cr (∀k u,i.cells.toList[k]?=oa u->wr.cell? ((⟨q,A+j*13,ob⟩:Addr).add k)=oa u):=λk u hu=>by
    rw[cI,oR.out.cell (p:=⟨q,_,ob⟩) pd];exact J j i a k u hu
   have hst:∀(c:cC bo),c.size=13->(cM ⟨wr.heap.size,0,ob⟩ i.cells.toList 0).run ac (wr.alloc (oB c 42))= .ok () (wr.alloc (oB i.cells 42)):=λc hc=>
    cf (P:=ac) wr 42 c i.cells (by show _=oa 13;kernel_rfl) hc (pO (px.out i pc))
   have pp:cr ((wr.alloc (oB i.cells 42)).heap[wr.heap.size]?=oa (oB i.cells 42 (0,0))):=alloc_at _ _;have pL:cr (bj N w (wr.alloc (oB i.cells 42))):=oR.out.alloc (by have:=HB.out.size;omega) _;have oS:cr (bj o.heap.size o (wr.alloc (oB i.cells 42))):=HB.out.alloc HB.out.size _;have pf:cr (zP 136 #[oA (jg m g),oA i.cells] (wr.alloc (oB i.cells 42)) (Z U (bZ m g i))):=pw.out i pc _ (by rw[v.out];exact pL.out);have pS:(j:ct)<(g.c.ins.length:ct):=by omega
   have HI:=zH a;obtain⟨z,ph⟩:=zE (bZ m g i);rw[ph] at pf;have pi:=zH ph;rw[hA];clear G hb a pc pn J ph
   by_cases oT:z=0
   ·subst oT
    go_wp2_with (first
     |(refine az rfl 42 _ rfl ⟨q,A+j*13,ob⟩ rfl i.cells _ po.out cT rfl (by kernel_rfl) ?_)
     |(refine cc rfl 42 _ rfl wr.heap.size rfl 42 i.cells (0,0) _ pp.out cT rfl (by kernel_rfl) ?_)
     |(go_at_call 136;refine pf.out.mono ?_;rintro e w3 ⟨rfl,K⟩;have pj:cr (bj o.heap.size o w3):=oS.out.trans (K.mono oS.out.size);clear K))
    go_roundw
    case rel=>exact⟨j+1,by omega,by go_num,jM (p:=λx=>bZ m g x=0) HZ.out HI.out pi.out,pj.out⟩
    case measure=>simp[intOf];omega
   ·have b:cr (R=z):=by
     unfold cr;have e:=kV (f:=bZ m g) HZ.out HI.out (by rw[pi.out];exact oT);rw[oY.out,e,pi.out,cQ oT]
    have pT:(z==0)=od:=by rw[cL];exact oT
    go_wp2_with (first
     |(refine az rfl 42 _ rfl ⟨q,A+j*13,ob⟩ rfl i.cells _ po.out cT rfl (by kernel_rfl) ?_)
     |(refine cc rfl 42 _ rfl wr.heap.size rfl 42 i.cells (0,0) _ pp.out cT rfl (by kernel_rfl) ?_)
     |(go_at_call 136;refine pf.out.mono ?_;rintro e w3 ⟨rfl,K⟩;have pj:cr (bj o.heap.size o w3):=oS.out.trans (K.mono oS.out.size);clear K))
    go_ret;rw[b.out]
    try rw[v.out]
    exact⟨rfl,y.out.trans (pj.out.mono (by omega))⟩
  ·have pN:j=g.c.ins.length:=by omega
   subst pN;rw[dl] at G;obtain⟨i,a⟩:∃i,g.c.ins[g.c.ins.length-1]?=oa i:=⟨_,ce (by omega)⟩
   have b:cr (R=dS (decide (16<=i.op)) 15):=by
    unfold cr;rw[oY.out,iU G,cy (by simp),List.getLast?_eq_getElem?,a]
   obtain⟨q,A,hA,pn,J⟩:=pk.out (by intro e;rw[e] at a;simp at a);have pd:q<N:=by omega
   obtain⟨L,hL⟩:∃L,g.c.ins.length=L+1:=⟨g.c.ins.length-1,by omega⟩
   have hd:wr.cell? ⟨q,A+L*13,ob⟩=oa (Z U i.op):=by
    rw[oR.out.cell (p:=⟨q,_,ob⟩) pd];rw[hL,Nat.add_sub_cancel] at a;exact J L i a 0 _ rfl
   have pZ:wr.cell? ⟨N,9,ob⟩=oa (ot (oa ⟨q,A,ob⟩) (L+1) g.c.insC):=by rw[hb.cell (p:=⟨N,9,ob⟩) pH,<-hA,<-hL];exact q9
   have qe:q<wr.heap.size:=by have:=hb.size;omega
   have qk:N<wr.heap.size:=by have:=hb.size;omega
   have qn:((L+1:bw):ct)-1=(L:ct):=by omega
   have qq:L<=3000:=by omega
   clear G hb a oY J q9;rw[hL]
   go_wp2_with (go_at_call 99;refine(av _ _ _).mono ?_;rintro e w8 ⟨rfl,rfl⟩)
   go_ret;rw[b.out]
   try rw[v.out]
   exact⟨rfl,oR.out⟩
section
open Go.RowKit Go.Maps
theorem lU:Keyed ac 9:=string_keyed kA
theorem xB (w:World):(zeroValue 4).run ac w= .ok (oy od) w:=by kernel_rfl
theorem l7 {P:gA}{e:eJ}(a:P.underlying e=oa .bool){v:bo}{z:DataW Unit×bh MemPlace}(h:ii P e v=oa z):∃x,v= .bool x/\z=(.lit (.bool x),[]):=by
 unfold ii at h;rw[a] at h;cases v<;>simp at h;exact⟨_,rfl,h.symm⟩
def l8 (w:World)(B n:bw)(S:bh ap):Prop:=∃D:DataW Unit,w.ownsMap ac 9 (ii ac 4) B n D/\IsMap D/\
 ∀x:ap,D.atKey (.string x.data.toList) (.lit (.bool od))= .lit (.bool (decide (x∈S)))
theorem l8.made (w:World):l8 (w.alloc (.map #[] 0)) w.heap.size 0 []:=
 ⟨.map [],World.ownsMap_made _ _ _ _,isMap_empty,λx=>by simp[DataW.atKey]⟩
theorem l8.lt {w:World}{B n:bw}{S:bh ap}(h:l8 w B n S):B<w.heap.size:=by
 obtain⟨D,a,b⟩:=h;exact a.lt
theorem l8.look {w:World}{B n:bw}{S:bh ap}(h:l8 w B n S){x:ap}(b:x.size<=cX):
  (ew 283 (.map (oa B)) (.string x) od).run ac w= .ok (.bool (decide (x∈S))) w:=by
 obtain⟨D,d,o,f⟩:=h;obtain⟨v,q,g,j⟩:=d.lookup lU underlying283 (xB w) (mz fh od) (np kA b);obtain⟨y,rfl,a⟩:=l7 fh j;rw[f x] at a;simp only[lR,DataW.lit.injEq,Lit.bool.injEq] at a;rw[g,<-a.1]
theorem l8.add {w:World}{B n:bw}{S:bh ap}(h:l8 w B n S){x:ap}(b:x.size<=cX)(d:n<cX):
  ∃w',(kf 283 (.map (oa B)) (.string x) (.bool oc)).run ac w= .ok () w'/\l8 w' B (n+1) (x::S)/\Ext (·=B) w w':=by
 obtain⟨D,f,a,g⟩:=h;obtain⟨w',j,o,q⟩:=f.update lU underlying283 d (np kA b) (mz fh oc);refine⟨w',j,⟨_,o,a.put _ _,λy=> ?_⟩,Ext.of_grown q (λk u=> .inl (by simpa using u.symm))⟩
 by_cases e:y=x
 ·subst e
  rw[atKey_put_same a (by simp[mb])];simp
 ·rw[atKey_put_other (AC e),g y];simp[e]
end
section
open Go.RowKit Go.Maps
theorem uf:(ac.info? 9).map (λi=>(i.zero,i.size,i.bytes))=oa (oa (oe ⟨#[]⟩),1,16):=by kernel_rfl
def dG (w:World)(base:bw)(v:bo)(xs:bh ap):Prop:=w.ownsRow base 9 1 v xs.length (xs.map dj)
theorem dG.nil (w:World)(base:bw):dG w base (ot ob 0 0) []:=World.ownsRow_nil _ _ _ _
theorem dG.isSlice {w:World}{base:bw}{v:bo}{xs:bh ap}(h:dG w base v xs):∃b cap,v= ot b xs.length cap:=by
 rcases h.2 with⟨a,d⟩|⟨g,cap,cur,a,_⟩
 ·exact⟨ob,0,by rw[d];exact a⟩
 ·exact⟨_,_,a⟩
theorem dG.at_ {w:World}{base n cap:bw}{a:dr Addr}{xs:bh ap}(h:dG w base (ot a n cap) xs):aF w a xs:=by
 intro o;rcases h.2 with⟨b,d⟩|⟨g,v,cur,b,d,f,y,A,D,q⟩
 ·exact gC (db d) o
 ·have u:a=oa ⟨g,0,ob⟩:=by simp only[ez] at b;exact b.1
  refine⟨g,0,u,(aw.1 f).1,λk z j=> ?_⟩;rw[cJ,ci w g k cur _ _ f];have G:k<xs.length:=(ca.1 j).1;have e:(cur.toList.take (xs.length*1))[k]?=oa (oe z):=by rw[q];simp[j]
  rw[m5,cQ (by omega)] at e;simpa using e
theorem dG.below {w w':World}{base:bw}{v:bo}{xs:bh ap}(h:dG w base v xs)(hb:bj w.heap.size w w'):dG w' base v xs:=ownsRow_below h hb
theorem dP {w:World}{ops:cC fY}{rest:bh fY}{o:fY}{a:Act}{Q:Exit->Act->World->Prop}(A:o.guard=ob)(s x:Operand)
  (D:o.op= .call {callee:= .builtin .append,args:=#[s,x],argTypes:=#[223,223]})(base:bw)(v:bo)(xs:bh ap)(G:a.eval s=v)(J:dG w base v xs)
  (f:Addr)(z:ap)(c:bw)(K:a.eval x= ot (oa f) 1 c)(N:w.cell? f=oa (oe z))(oX:xs.length<=90000)(R:base<=w.heap.size)
  (h:∀d w',dG w' base d (xs++[z])->w.grownBy w' v.ownBlock->wpList ac ops Q rest (a.put o.dst d) w'):wpList ac ops Q (o::rest) a w:=by
 obtain⟨Y,hi,oR,oS,oT⟩:=iu uf;have hh:∀d w',w'.ownsRow base 9 1 d (xs.length+1) (xs.map dj++[oe z])->w.grownBy w' v.ownBlock->wpList ac ops Q rest (a.put o.dst d) w':=λd w' g q=>h d w' (by unfold dG;simpa using g) q;refine wpList_append_own _ A s x 223 D base 9 Y (oe ⟨#[]⟩) 1 16 ms hi oR oS oT rfl (by decide) v xs.length _ G J f 1 c [oe z] K (by simp) (λj u y=> ?_) (by simp;rfl) (by unfold cX;omega) (by omega) R (λd w' g q _=>hh d w' g q);have:j<1:=(ca.1 y).1;obtain rfl:j=0:=by omega
 simp at y;subst y;obtain⟨b,o,s⟩:=f;simpa[Addr.add] using N
theorem vI {xs:bh ap}{j:bw}{y:ap}(h:(xs.take j).Nodup)(d:xs[j]?=oa y)(f:y∉xs.take j):(xs.take (j+1)).Nodup:=by
 rw[dx d,im];exact⟨h,by simp,by intro a g b hb;simp at hb;subst hb;rintro rfl;exact f g⟩
theorem xC {xs:bh ap}{j:bw}{y:ap}(b:xs[j]?=oa y)(d:y∈xs.take j):¬xs.Nodup:=by
 intro h;have a:(xs.take (j+1)).Nodup:=h.sublist (List.take_sublist _ _);rw[dx b,im] at a;exact a.2.2 y d y (by simp) rfl
theorem gD (w:World)(c:bw)(ao:dr Addr)(xs:bh ap)(hn:xs.length<=90000)(oR:∀x∈xs,x.size<=cX)(h:aF w ao xs):
  zP 133 #[ot ao xs.length c] w (oy (decide (¬xs.Nodup))):=by
 have po:=@run_makeMap ac;have H:=zH h;have pb:=zH oR;obtain⟨N,g⟩:=zE w.heap.size;obtain⟨W1,oS⟩:=zE (w.alloc (.map #[] 0));have oT:=gq oS g;have pc:cr (l8 W1 N 0 []):=by rw[<-oS,<-g];exact l8.made w
 have pd:=zH oT;have o:=zH g;obtain⟨R,q⟩:=zE (decide (¬xs.Nodup));rw[q];have HR:=zH q;clear h oR oT q;go_enter func133,ntmps133
 go_wp2_with fail
 go_loopw [9] (λc wr=>∃(j:bw) (S:bh ap),j<=xs.length/\c= Z U (j:ct)/\l8 wr N j S/\(∀z,z∈S↔z∈xs.take j)/\(xs.take j).Nodup/\bj N w wr) (λc _=>xs.length-(intOf c).toNat)
 case atStart=>exact⟨0,[],da _,rfl,pc.out,by simp,by simp,pd.out⟩
 case round=>
  obtain⟨j,S,hj,rfl,a,u,b,hb⟩:=hrel;have v:=zH hb;have pf:=zH b;have A:=zH u
  by_cases D:j<xs.length
  ·obtain⟨y,f⟩:∃y,xs[j]?=oa y:=⟨_,ce D⟩
   obtain⟨g1,ph,rfl,pp,q1⟩:=(H.out.below (by rw[o.out];exact hb)) (by intro e;rw[e] at D;simp at D)
   have d1:wr.cell? ⟨g1,ph+j,ob⟩=oa (oe y):=q1 j y f;have G:=pb.out y (cA f);have pw:(j:ct)<(xs.length:ct):=by omega
   have pi:=a.look G;obtain⟨w2,px,oX,oY⟩:=a.add G (show j<cX by unfold cX;omega);obtain⟨d,J⟩:=zE (decide (y∈S));rw[J] at pi;have HD:=zH J;have K:=zH f;have pj:=zH oX;have pk:=zH oY;have py:=a.lt;clear a u b hb f q1 G J oX oY;cases d with
   |true=>
    have Y:cr (R=oc):=by
     unfold cr;rw[<-HR.out];exact kh (xC K.out ((A.out y).1 (lO HD.out)))
    go_wp2;go_ret;rw[Y.out]
    try rw[o.out]
    exact⟨rfl,v.out⟩
   |false=>
    go_wp2;go_roundw
    case rel=>
     have pl:y∉xs.take j:=λh=>of_decide_eq_false HD.out ((A.out y).2 h);refine⟨j+1,y::S,by omega,by go_num,pj.out,λz=> ?_,vI pf.out K.out pl, ?_⟩
     ·rw[dx K.out,eR,cw,A.out z,co,or_comm]
     ·have pm:Ext (N<=·) wr w2:=pk.out.mono (λk hk=>by show N<=k;omega)
      exact v.out.trans (pm.below (by omega) (λk hk=>hk))
    case measure=>simp[intOf];omega
  ·have pn:j=xs.length:=by omega
   subst pn;have Y:cr (R=od):=by
    unfold cr;rw[dl] at b;rw[<-HR.out];exact er (by simpa using b)
   clear a u b hb;go_wp2;go_ret;rw[Y.out]
   try rw[o.out]
   exact⟨rfl,v.out⟩
end
end Go.Proofs.YtjomgckjhcfbgaaGreat
