/- Walks. -/
import Derived.Deep.WholeRow
import Derived.Maps.OwnOps
import Derived.Maps.Views
import Derived.Laws.OwnMore
import Derived.Test.YtjomgckjhcfbgaaGreatP7
set_option maxRecDepth 100000
set_option maxHeartbeats 64000000
set_option linter.all false
namespace Go.Proofs.YtjomgckjhcfbgaaGreat
open Go.RowKit
open Go.Proofs.Tryz renaming prog→am,underlying42→cA,underlying184→cG,ntmps189→eJ,func189→eW,underlying9→gS,underlying4→mu,ntmps97→mN,func97→n6,underlying223→qe
open _root_.List renaming getElem?_eq_getElem→ap,setIfInBounds_toArray→bh,getElem?_eq_some_iff→bo,set_cons_zero→bx,set_cons_succ→ca,mem_of_getElem?→ci,getElem_cons_zero→co,getElem_cons_succ→ct,getElem_toArray→cx,take_length→cL,mem_singleton→cP,eq_nil_of_length_eq_zero→cV,mem_append→dg,mem_cons→fW,all_eq_true→gn,getElem?_take→lO,getElem?_eq_none→m9,nodup_append→pk
open Go.RowKit.Below renaming refl→aq,mono→pj
open _root_ renaming Int→aw,Nat→bj,ByteArray→bl,List→bp,if_neg→bw,decide_eq_false→cm,Option→cC,if_pos→cH,beq_eq_false_iff_ne→cN,decide_eq_true→cR,Array→dl,absurd→fz,Bool→ml,of_decide_eq_true→mw,of_decide_eq_false→qu
open Go.RowKit renaming Below→aE,Hid→cg,intOf→dp
open _root_.Array renaming getElem?_eq_some_iff→br,all_toList→j9
open Go renaming cell_of_row→bt,wpList_load_row→cf,run_storeCells_new→cr,Value→cw,storeCells→dd,wpQuiet_nil→dr,maxLen→du,Addr→fg,Calls→fj,beq_toListBytes→fx,TypeId→fX,wpAnyH_ready→jz,Oper→kj,Program→km,MemPlace→m5,info_parts→m6,yielded→oc,wpList→pi,plainElem→ra
open _root_.Nat renaming le_refl→cd,zero_add→cI,zero_le→cM
open Go.Value renaming oneCell'→cn,string→eM,int→eS,string→tm,slice→tn,pointer→tr,bool→tt,agg→tv,int→Z
open Go.Addr renaming add_lit→cU
open Go.Act renaming put→cY
open Go.Region renaming ready→em,noSelect→fR,wanted→gd,Mode→ii,free→mL
open _root_.Int renaming toNat_natCast→ep
open Go.Value.slice renaming injEq→fy
open Go.AllReadyH renaming cons→fN,nil→hX
open Go.Op renaming equalIn→gt
open Go.Instr renaming lookup→mx
open Go.ByteArray renaming toList_eq→oA
open _root_.Prod.mk renaming injEq→pp
open Go.WideMaps renaming keyOf_string_mk→sB
open _root_.Option renaming some→tf,none→th
open _root_.Bool renaming true→ti,false→tj
open Go.Obj renaming cells→tA
open Go.Ending renaming returned→tB
open Go.IntKind renaming i64→U
open Tryz
theorem FC (m:Mo)(g:Fn)(i:Ins)(w:World)(q:i.op=9)(h:dI w m g i):
  zP 189 #[tv (jg m g),tv i.cells] w (Z U (au m g.vs i)):=by
 have u:cg (au m g.vs i=bN ((ax g.vs i.a).1&&ax g.vs i.a==ax g.vs i.d) 7):=by
  unfold cg au;rw[q];rfl
 obtain⟨R,W⟩:=zE (au m g.vs i);rw[W] at u⊢;clear W;have tG:=zH h;obtain⟨N,W1,hN,tM,tP,tD,⟨i0,i1,i2,i3,i4,i6⟩,x,tR,y,z,tS,HT,HD,HA,HB⟩:=bT q h;clear h q;obtain⟨⟨f,A⟩,j⟩:∃t,ax g.vs i.a=t:=⟨_,rfl⟩
 obtain⟨⟨E,G⟩,o⟩:∃t,ax g.vs i.d=t:=⟨_,rfl⟩
 have tU:(ax g.vs i.a).1=f:=by rw[j]
 have tW:(ax g.vs i.a).2=A:=by rw[j]
 have ua:(ax g.vs i.d).1=E:=by rw[o]
 have ub:(ax g.vs i.d).2=G:=by rw[o]
 have HV:cg (∀v,v=i.a\/v=i.d->isVar g.vs.length v=ti):=λv h=>by rcases h with rfl|rfl;exact HA.out rfl;exact HD.out rfl
 have J:cg (∀(p:BW W1)(v:aw),isVar g.vs.length v=ti->zP 188 #[tv (jg m g),Z U v] p.w (tv #[tt (ax g.vs v).1,tm (ax g.vs v).2])):=λp v hv=>HT.out p.w v (by rw[x.out];exact y.out.trans (p.h.mono (by omega))) hv;unfold jg at J;obtain⟨d,K⟩:=zE (((f,A):Ty)==(E,G));have uc:∀w,(gt 10000 32 (tv #[tt f,tm A]) (tv #[tt E,tm G])).run am w= .ok d w:=λw=>by rw[dB,K]
 have tE:cg (R=bN (f&&d) 7):=by unfold cg;rw[u.out,j,o,K]
 have ud:=jN;have e:cg (∀p:BW W1,jk p.w N m g):=λp=>jk.of ((p.h.block N (by omega)).trans z.out);have k0:∀p:BW W1,p.w.cell? ⟨N,0,th⟩=tf (tn m.sA m.ss.length m.sC):=λp=>(e.out p).1;have k1:∀p:BW W1,p.w.cell? ⟨N,1,th⟩=tf (tn m.fA m.fs.length m.fC):=λp=>(e.out p).2.1;have k2:∀p:BW W1,p.w.cell? ⟨N,2,th⟩=tf (tm g.c.nm):=λp=>(e.out p).2.2.1;have k3:∀p:BW W1,p.w.cell? ⟨N,3,th⟩=tf (Z U g.c.par):=λp=>(e.out p).2.2.2.1;have k4:∀p:BW W1,p.w.cell? ⟨N,4,th⟩=tf (tn g.c.varsA g.c.nvars g.c.varsC):=λp=>(e.out p).2.2.2.2.1;have k5:∀p:BW W1,p.w.cell? ⟨N,5,th⟩=tf (tt g.c.rp):=λp=>(e.out p).2.2.2.2.2.1;have k6:∀p:BW W1,p.w.cell? ⟨N,6,th⟩=tf (tm g.c.rto):=λp=>(e.out p).2.2.2.2.2.2.1;have k7:∀p:BW W1,p.w.cell? ⟨N,7,th⟩=tf (Z U g.c.rcl):=λp=>(e.out p).2.2.2.2.2.2.2.1;have k8:∀p:BW W1,p.w.cell? ⟨N,8,th⟩=tf (tn g.c.fromA g.c.nfrom g.c.fromC):=λp=>(e.out p).2.2.2.2.2.2.2.2.1;have k9:∀p:BW W1,p.w.cell? ⟨N,9,th⟩=tf (tn g.c.insA g.c.ins.length g.c.insC):=λp=>(e.out p).2.2.2.2.2.2.2.2.2;have ue:∀p:BW W1,p.w.cell? ⟨N+1,1,th⟩=tf (Z U i.d):=λp=>by rw[p.h.cell (p:=⟨N+1,1,th⟩) tD];exact i1
 have up:∀p:BW W1,p.w.cell? ⟨N+1,2,th⟩=tf (Z U i.a):=λp=>by rw[p.h.cell (p:=⟨N+1,2,th⟩) tD];exact i2
 clear u j o K HT HB tG;cases f with
 |false=>
  go_enter eW,eJ
  go_wp2_with (refine cf rfl 184 _ rfl N rfl 184 (jg m g) (0,0) _ z.out cG rfl (by kernel_rfl) ?_)
  refine zQ ?_
  repeat (go_big_quiet_step (first
   |(go_at_call 188;exact bg (J.out _ _ (HV.out _ (by first|exact .inl rfl|exact .inr rfl))))
   |(go_at_call 99;exact jr (aB _ _ _))))
  refine dr ?_;rintro _ ⟨p,rfl⟩;go_wp2;go_ret;rw[tE.out,x.out];exact⟨rfl,y.out.trans (p.h.mono (by omega))⟩
 |true=>
  go_enter eW,eJ
  go_wp2_with (refine cf rfl 184 _ rfl N rfl 184 (jg m g) (0,0) _ z.out cG rfl (by kernel_rfl) ?_)
  refine zQ ?_
  repeat (go_big_quiet_step (first
   |(go_at_call 188;exact bg (J.out _ _ (HV.out _ (by first|exact .inl rfl|exact .inr rfl))))
   |(go_at_call 99;exact jr (aB _ _ _))))
  refine dr ?_;rintro _ ⟨p,rfl⟩;go_wp2;go_ret;rw[tE.out,x.out];exact⟨rfl,y.out.trans (p.h.mono (by omega))⟩
theorem Em (m:Mo)(g:Fn)(i:Ins)(w:World)(tE:i.op=12)(h:dI w m g i):
  zP 189 #[tv (jg m g),tv i.cells] w (Z U (au m g.vs i)):=by
 have q:cg (au m g.vs i=if i.f<0 then 15 else match m.ss[i.f.toNat]? with
  |none=>15
  |some s=>bN (ax g.vs i.d==(ti,s.s.nm)) 7):=by
  unfold cg au;rw[tE];rfl
 obtain⟨R,hR⟩:=zE (au m g.vs i);rw[hR] at q⊢;clear hR;have J:=zH h;obtain⟨N,W1,hN,ue,up,tR,⟨i0,i1,i2,i3,i4,i6⟩,K,ur,u,y,uv,W,HD,HA,HB⟩:=bT tE h;clear h tE;have ua:W1.cell? ⟨N,0,th⟩=tf (tn m.sA m.ss.length m.sC):=(jk.of y.out).1
 by_cases z:i.f<0
 ·have A:cg (R=15):=by unfold cg;rw[q.out,cH z]
  clear q W HD HA HB J;go_enter eW,eJ
  go_wp2_with (refine cf rfl 184 _ rfl N rfl 184 (jg m g) (0,0) _ y.out cG rfl (by kernel_rfl) ?_)
  go_ret;rw[A.out];exact⟨rfl,by first|exact u.out|(rw[K.out];exact u.out)⟩
 obtain⟨F,hF⟩:∃F:bj,i.f=(F:aw):=⟨i.f.toNat,by omega⟩
 rw[hF] at i4
 by_cases E:F<m.ss.length
 ·obtain⟨x,hst⟩:∃f,m.ss[F]?=tf f:=⟨_,ap E⟩
  have tS:cg (R=bN (ax g.vs i.d==(ti,x.s.nm)) 7):=by
   unfold cg;rw[q.out,bw z,hF,ep,hst]
  obtain⟨G,tU,tG,ub,tW⟩:=J.out.j.mo.srow (by intro e;rw[e] at E;simp at E);have uc:G<N:=by omega
  have c0:w.cell? ⟨G,tU+F*4,th⟩=tf (tm x.s.nm):=tW F x hst 0 _ rfl;obtain⟨⟨bd,sd⟩,tD⟩:∃t,ax g.vs i.d=t:=⟨_,rfl⟩
  have ux:(ax g.vs i.d).1=bd:=by rw[tD]
  have vc:(ax g.vs i.d).2=sd:=by rw[tD]
  have HV:cg (∀v,v=i.d\/v=i.d->isVar g.vs.length v=ti):=λv h=>by rcases h with rfl|rfl<;>exact HD.out rfl
  have tM:cg (∀(p:BW W1)(v:aw),isVar g.vs.length v=ti->zP 188 #[tv (jg m g),Z U v] p.w (tv #[tt (ax g.vs v).1,tm (ax g.vs v).2])):=λp v hv=>W.out p.w v (by rw[K.out];exact u.out.trans (p.h.mono (by omega))) hv;unfold jg at tM;obtain⟨d,tP⟩:=zE (((bd,sd):Ty)==(ti,x.s.nm));have vd:∀w,(gt 10000 32 (tv #[tt bd,tm sd]) (tv #[tt ti,tm x.s.nm])).run am w= .ok d w:=λw=>by rw[dB,tP]
  have A:cg (R=bN d 7):=by unfold cg;rw[tS.out,tD,tP]
  have o:cg (∀p:BW W1,jk p.w N m g):=λp=>jk.of ((p.h.block N (by omega)).trans y.out);have k0:∀p:BW W1,p.w.cell? ⟨N,0,th⟩=tf (tn m.sA m.ss.length m.sC):=λp=>(o.out p).1;have k1:∀p:BW W1,p.w.cell? ⟨N,1,th⟩=tf (tn m.fA m.fs.length m.fC):=λp=>(o.out p).2.1;have k2:∀p:BW W1,p.w.cell? ⟨N,2,th⟩=tf (tm g.c.nm):=λp=>(o.out p).2.2.1;have k3:∀p:BW W1,p.w.cell? ⟨N,3,th⟩=tf (Z U g.c.par):=λp=>(o.out p).2.2.2.1;have k4:∀p:BW W1,p.w.cell? ⟨N,4,th⟩=tf (tn g.c.varsA g.c.nvars g.c.varsC):=λp=>(o.out p).2.2.2.2.1;have k5:∀p:BW W1,p.w.cell? ⟨N,5,th⟩=tf (tt g.c.rp):=λp=>(o.out p).2.2.2.2.2.1;have k6:∀p:BW W1,p.w.cell? ⟨N,6,th⟩=tf (tm g.c.rto):=λp=>(o.out p).2.2.2.2.2.2.1;have k7:∀p:BW W1,p.w.cell? ⟨N,7,th⟩=tf (Z U g.c.rcl):=λp=>(o.out p).2.2.2.2.2.2.2.1;have k8:∀p:BW W1,p.w.cell? ⟨N,8,th⟩=tf (tn g.c.fromA g.c.nfrom g.c.fromC):=λp=>(o.out p).2.2.2.2.2.2.2.2.1;have k9:∀p:BW W1,p.w.cell? ⟨N,9,th⟩=tf (tn g.c.insA g.c.ins.length g.c.insC):=λp=>(o.out p).2.2.2.2.2.2.2.2.2;have vf:∀p:BW W1,p.w.cell? ⟨N+1,1,th⟩=tf (Z U i.d):=λp=>by rw[p.h.cell (p:=⟨N+1,1,th⟩) tR];exact i1
  have vh:∀p:BW W1,p.w.cell? ⟨N+1,4,th⟩=tf (Z U (F:aw)):=λp=>by rw[p.h.cell (p:=⟨N+1,4,th⟩) tR];exact i4
  have vm:∀p:BW W1,p.w.cell? ⟨G,tU+F*4,th⟩=tf (tm x.s.nm):=λp=>by
   rw[(u.out.trans (p.h.mono (by omega))).cell (p:=⟨G,_,th⟩) uc];exact c0
  have ud:(F:aw)<(m.ss.length:aw):=by omega
  have vp:G<W1.heap.size:=by omega
  have vq:∀(s:bl)(w:World),(Instr.build 32 #[(0,tt ti),(1,tm s)]).run am w= .ok (tv #[tt ti,tm s]) w:=λs w=>run_build w 32 _ _ (by kernel_rfl);rw[tG] at ua k0 tM;have vr:=zH tG;clear q tS tP tD W HB J tG hst E hF z ub tW c0;go_enter eW,eJ
  go_wp2_with (refine cf rfl 184 _ rfl N rfl 184 (jg m g) (0,0) _ y.out cG rfl (by kernel_rfl) ?_)
  refine zQ ?_
  repeat (go_big_quiet_step (first
   |(go_at_call 188;exact bg (tM.out _ _ (HV.out _ (by first|exact .inl rfl|exact .inr rfl))))
   |(go_at_call 99;exact jr (aB _ _ _))))
  refine dr ?_;rintro _ ⟨p,rfl⟩;go_wp2;go_ret;rw[A.out,K.out];exact⟨rfl,u.out.trans (p.h.mono (by omega))⟩
 ·have A:cg (R=15):=by unfold cg;rw[q.out,bw z,hF,ep,m9 (by omega)]
  have ud:¬((F:aw)<(m.ss.length:aw)):=by omega
  clear q W HD HA HB J E hF z;go_enter eW,eJ
  go_wp2_with (refine cf rfl 184 _ rfl N rfl 184 (jg m g) (0,0) _ y.out cG rfl (by kernel_rfl) ?_)
  go_ret;rw[A.out];exact⟨rfl,by first|exact u.out|(rw[K.out];exact u.out)⟩
theorem Bg {w:World}{B:bj}{xs:bp aw}(d:B=w.heap.size):ak (w.alloc (tA (xs.map (eS .i64)).toArray 3)) (tf ⟨B,0,th⟩) xs:=by
 subst d;intro _;refine⟨w.heap.size,0,rfl,by simp,λk u e=> ?_⟩;rw[cI,World.cell?_alloc_new];simp[e]
theorem rX {w:World}{B:bj}{xs:bp bl}(d:B=w.heap.size):aR (w.alloc (tA (xs.map eM).toArray 9)) (tf ⟨B,0,th⟩) xs:=by
 subst d;intro _;refine⟨w.heap.size,0,rfl,by simp,λk u e=> ?_⟩;rw[cI,World.cell?_alloc_new];simp[e]
theorem FD (m:Mo)(g:Fn)(i:Ins)(w:World)(A:i.op=4)(h:dI w m g i):
  zP 189 #[tv (jg m g),tv i.cells] w (Z U (au m g.vs i)):=by
 have x:cg (au m g.vs i=dZ (dQ g.vs [i.d,i.a,i.b]) i.sign fZ):=by
  unfold cg au;rw[A];rfl
 obtain⟨R,hR⟩:=zE (au m g.vs i);rw[hR] at x⊢;clear hR;have tG:=zH h;obtain⟨N,W1,hN,tS,tU,y,⟨i0,i1,i2,i3,i4,i6⟩,HN,tW,tM,tR,ua,HT,HD,HA,HB⟩:=bT A h;clear h A;obtain⟨E,G⟩:=zE (dQ g.vs [i.d,i.a,i.b]);rw[G] at x;have J:cg (∀(W:World)(o:bj),aE W1.heap.size W1 W->ak W (tf ⟨o,0,th⟩) [i.d,i.a,i.b]->zP 187 #[tv (jg m g),tn (tf ⟨o,0,th⟩) 3 3] W (Z U E)):=by
  intro W o t K;have hj:=tG.out.j.below (by rw[HN.out];exact tM.out.trans (t.mono (by omega)):aE w.heap.size w W);have:=cB m g (tf ⟨o,0,th⟩) [i.d,i.a,i.b] 3 W hj.vars hj.nv hj.vl (by unfold du;simp) K (by simp;exact⟨HD.out rfl,HA.out rfl,HB.out rfl⟩);rw[G] at this;exact this
 have tD:cg (∀(W:World)(o:bj),aR W (tf ⟨o,0,th⟩) fZ->zS 226 #[Z U E,tm i.sign,tn (tf ⟨o,0,th⟩) 11 11] W (Z U R)):=by
  intro W o K;rw[x.out];exact nQ E i.sign fZ (tf ⟨o,0,th⟩) 11 W (by unfold du fZ;simp) K
 have q:cg (∀W,aE W1.heap.size W1 W->W.cell? ⟨N+1,1,th⟩=tf (Z U i.d)/\W.cell? ⟨N+1,2,th⟩=tf (Z U i.a)/\W.cell? ⟨N+1,3,th⟩=tf (Z U i.b)/\W.cell? ⟨N+1,6,th⟩=tf (tm i.sign)/\aE W1.heap.size W1 W):=λW t=>
  ⟨by rw[t.cell (p:=⟨N+1,1,th⟩) y];exact i1,by rw[t.cell (p:=⟨N+1,2,th⟩) y];exact i2,by rw[t.cell (p:=⟨N+1,3,th⟩) y];exact i3,by rw[t.cell (p:=⟨N+1,6,th⟩) y];exact i6,t⟩
 have HI:cg (∀(W:World)(B:bj),B=W.heap.size->ak (W.alloc (tA #[Z U i.d,Z U i.a,Z U i.b] 3)) (tf ⟨B,0,th⟩) [i.d,i.a,i.b]):=λW B hB=>Bg hB;have tE:cg (∀(W:World)(B:bj),B=W.heap.size->aR (W.alloc (tA #[tm ⟨#[43]⟩,tm ⟨#[45]⟩,tm ⟨#[42]⟩,tm ⟨#[47]⟩,tm ⟨#[37]⟩,tm ⟨#[60]⟩,tm ⟨#[60,61]⟩,tm ⟨#[62]⟩,tm ⟨#[62,61]⟩,tm ⟨#[61,61]⟩,tm ⟨#[33,61]⟩] 9)) (tf ⟨B,0,th⟩) fZ):=λW B hB=>rX hB;clear x HD HA HB HT tG G;go_enter eW,eJ
 go_wp2_with (refine cf rfl 184 _ rfl N rfl 184 (jg m g) (0,0) _ tR.out cG rfl (by kernel_rfl) ?_)
 go_region_held3 (λw'=>w'.cell? ⟨N+1,1,th⟩=tf (Z U i.d)/\w'.cell? ⟨N+1,2,th⟩=tf (Z U i.a)/\w'.cell? ⟨N+1,3,th⟩=tf (Z U i.b)/\w'.cell? ⟨N+1,6,th⟩=tf (tm i.sign)/\aE W1.heap.size W1 w')
  (first
   |(exact z)
   |(exact q.out _ ((aq _ _).drew))
   |(exact q.out _ (((aq _ _).drew).alloc (by simp) _))
   |(exact q.out _ ((((aq _ _).drew).alloc (by simp) _).alloc (by simp<;>omega) _))
   |(exact q.out _ f)
   |(exact q.out _ (f.alloc (by have:=f.size;omega) _))
   |fail)
  (first
   |(go_at_call 187;first
      |(refine(J.out _ _ (((aq _ _).drew).alloc (by simp) _) (HI.out _ _ (by simp<;>omega))).mono ?_;rintro e v ⟨rfl,u⟩;have f:aE W1.heap.size W1 v:=(((aq _ _).drew).alloc (by simp) _).trans (u.mono (by simp));have z:=q.out _ f)
      |(refine(J.out _ _ ((((aq _ _).drew).alloc (by simp) _).alloc (by simp<;>omega) _) (HI.out _ _ (by simp<;>omega))).mono ?_;rintro e v ⟨rfl,u⟩;have f:aE W1.heap.size W1 v:=((((aq _ _).drew).alloc (by simp) _).alloc (by simp<;>omega) _).trans (u.mono (by simp<;>omega));have z:=q.out _ f)
      |(refine(J.out _ _ ((((aq _ _).drew).alloc (by simp) _).alloc (by simp<;>omega) _) ((HI.out _ _ (by simp<;>omega)).below ((aq _ _).alloc (cd _) _))).mono ?_;rintro e v ⟨rfl,u⟩;have f:aE W1.heap.size W1 v:=((((aq _ _).drew).alloc (by simp) _).alloc (by simp<;>omega) _).trans (u.mono (by simp<;>omega));have z:=q.out _ f))
   |(go_at_call 226;first
      |(refine(tD.out _ _ (tE.out _ _ (by simp))).mono ?_;rintro e tP ⟨rfl,rfl⟩)
      |(refine(tD.out _ _ ((tE.out _ _ (by simp<;>omega)).below u)).mono ?_;rintro e tP ⟨rfl,rfl⟩)
      |(refine(tD.out _ _ (((tE.out _ _ (by simp<;>omega)).below ((aq _ _).alloc (cd _) _)).below u)).mono ?_;rintro e tP ⟨rfl,rfl⟩)))
 all_goals
  clear z;go_wp2;go_ret;refine⟨rfl, ?_⟩;rw[HN.out];exact tM.out.trans (pj (by first|exact f|exact f.alloc (by have:=f.size;omega) _) (by omega))
section
variable {P:km}{ops:dl kj}{Q:Exit->Act->World->Prop}{md:ii}{S:World->Prop}
theorem zW (i:bj)(v:cw){d:kj}{fuel:bj}{listed:dl ml}{a:Act}{w:World}(hi:ops[i]?=tf d)
  (h:wpAnyH P md ops Q S fuel (listed.setIfInBounds i ti) (a.put d.dst v) w)
  (e:∀w,S w->(execOp a.eval d).run P w= .ok (.value v) w:=by intro w f;(try dsimp only at f);go_simp)
  (g:gd d (oc ops a.tmps)=ti:=by rfl)(j:fR ops=ti:=by kernel_rfl)(hf:mL md ops listed i=ti:=by kernel_rfl)(o:(em md ops listed).contains i=ti:=by kernel_rfl)
  (q:∀c a w,Q (.panic c) (a.put d.dst v) w->Q (.panic c) a w:=by exact λ_ _ _ h=>h)(t:S w:=by assumption):wpAnyH P md ops Q S (fuel+1) listed a w:=
 wpAnyH_take hi j hf o q (.inl ⟨g,e⟩) t h
theorem zX (i:bj){d:kj}{fuel:bj}{listed:dl ml}{a:Act}{w:World}(hi:ops[i]?=tf d)
  (h:wpAnyH P md ops Q S fuel (listed.setIfInBounds i ti) (a.put d.dst undef) w)
  (e:gd d (oc ops a.tmps)=tj:=by rfl)(f:fR ops=ti:=by kernel_rfl)(hf:mL md ops listed i=ti:=by kernel_rfl)(g:(em md ops listed).contains i=ti:=by kernel_rfl)
  (j:∀c a w,Q (.panic c) (a.put d.dst undef) w->Q (.panic c) a w:=by exact λ_ _ _ h=>h)(o:S w:=by assumption):wpAnyH P md ops Q S (fuel+1) listed a w:=
 wpAnyH_take hi f hf g j (.inr ⟨e,rfl⟩) o h
end
theorem En (m:Mo)(g:Fn)(i:Ins)(w:World)(tM:i.op=14)(h:dI w m g i):
  zP 189 #[tv (jg m g),tv i.cells] w (Z U (au m g.vs i)):=by
 have HE:cg (au m g.vs i=dZ (bN (!(ax g.vs i.d).1&&(ax g.vs i.a).1) 7) i.sign jb):=by
  unfold cg au;rw[tM];rfl
 obtain⟨R,hR⟩:=zE (au m g.vs i);rw[hR] at HE⊢;clear hR;have ub:=zH h;obtain⟨N,W1,hN,ud,ue,tP,⟨i0,i1,i2,i3,i4,i6⟩,E,up,G,tR,ur,HT,HD,HA,HB⟩:=bT tM h;clear h tM;obtain⟨⟨ba,sa⟩,J⟩:∃t,ax g.vs i.a=t:=⟨_,rfl⟩
 obtain⟨⟨bd,sd⟩,tD⟩:∃t,ax g.vs i.d=t:=⟨_,rfl⟩
 have uv:(ax g.vs i.a).1=ba:=by rw[J]
 have ux:(ax g.vs i.a).2=sa:=by rw[J]
 have vc:(ax g.vs i.d).1=bd:=by rw[tD]
 have vd:(ax g.vs i.d).2=sd:=by rw[tD]
 have HV:cg (∀v,v=i.a\/v=i.d->isVar g.vs.length v=ti):=λv h=>by rcases h with rfl|rfl;exact HA.out rfl;exact HD.out rfl
 have tS:cg (∀(W:World)(v:aw),aE W1.heap.size W1 W->isVar g.vs.length v=ti->fj am 188 #[tv #[tn m.sA m.ss.length m.sC,tn m.fA m.fs.length m.fC,tm g.c.nm,Z U g.c.par,tn g.c.varsA g.c.nvars g.c.varsC,tt g.c.rp,tm g.c.rto,Z U g.c.rcl,tn g.c.fromA g.c.nfrom g.c.fromC,tn g.c.insA g.c.ins.length g.c.insC],Z U v] W λe w'=>e= tB (tv #[tt (ax g.vs v).1,tm (ax g.vs v).2])/\aE W1.heap.size W1 w'/\aE W.heap.size W w'):=by
  intro W v y hv;refine(HT.out W v (by rw[E.out];exact G.out.trans (y.mono (by omega))) hv).mono ?_;rintro e w' ⟨rfl,hb⟩;exact⟨rfl,y.trans (hb.mono y.size),hb⟩
 have tU:cg (R=dZ (bN (!bd&&ba) 7) i.sign jb):=by unfold cg;rw[HE.out,J,tD]
 have tE:cg (∀(W:World)(tG:bj),aR W (tf ⟨tG,0,th⟩) jb->zS 226 #[Z U (bN (!bd&&ba) 7),tm i.sign,tn (tf ⟨tG,0,th⟩) 2 2] W (Z U R)):=by
  intro W tG uc;rw[tU.out];exact nQ _ i.sign jb (tf ⟨tG,0,th⟩) 2 W (by unfold du jb;simp) uc
 have tW:cg (∀W,aE W1.heap.size W1 W->jk W N m g):=λW y=>jk.of ((y.block N (by omega)).trans tR.out);have o:cg (∀W,aE W1.heap.size W1 W->W.cell? ⟨N,0,th⟩=tf (tn m.sA m.ss.length m.sC)/\W.cell? ⟨N,1,th⟩=tf (tn m.fA m.fs.length m.fC)/\W.cell? ⟨N,2,th⟩=tf (tm g.c.nm)/\W.cell? ⟨N,3,th⟩=tf (Z U g.c.par)/\W.cell? ⟨N,4,th⟩=tf (tn g.c.varsA g.c.nvars g.c.varsC)/\W.cell? ⟨N,5,th⟩=tf (tt g.c.rp)/\W.cell? ⟨N,6,th⟩=tf (tm g.c.rto)/\W.cell? ⟨N,7,th⟩=tf (Z U g.c.rcl)/\W.cell? ⟨N,8,th⟩=tf (tn g.c.fromA g.c.nfrom g.c.fromC)/\W.cell? ⟨N,9,th⟩=tf (tn g.c.insA g.c.ins.length g.c.insC)/\W.cell? ⟨N+1,1,th⟩=tf (Z U i.d)/\W.cell? ⟨N+1,2,th⟩=tf (Z U i.a)/\W.cell? ⟨N+1,6,th⟩=tf (tm i.sign)/\aE W1.heap.size W1 W):=λW y=>by
  obtain⟨a0,a1,a2,a3,a4,a5,a6,a7,a8,a9⟩:=tW.out W y;exact⟨a0,a1,a2,a3,a4,a5,a6,a7,a8,a9,by rw[y.cell (p:=⟨N+1,1,th⟩) tP];exact i1,by rw[y.cell (p:=⟨N+1,2,th⟩) tP];exact i2,by rw[y.cell (p:=⟨N+1,6,th⟩) tP];exact i6,y⟩
 have q:cg (∀(W:World)(B:bj),B=W.heap.size->aR (W.alloc (tA #[tm ⟨#[61,61]⟩,tm ⟨#[33,61]⟩] 9)) (tf ⟨B,0,th⟩) jb):=λW B hB=>rX hB;have vf:=jN;clear HE HD HA HB HT ub J tD tW tU;cases bd with
 |false=>
  go_enter eW,eJ
  go_wp2_with (refine cf rfl 184 _ rfl N rfl 184 (jg m g) (0,0) _ tR.out cG rfl (by kernel_rfl) ?_)
  go_region_held3 (λw'=>w'.cell? ⟨N,0,th⟩=tf (tn m.sA m.ss.length m.sC)/\w'.cell? ⟨N,1,th⟩=tf (tn m.fA m.fs.length m.fC)/\w'.cell? ⟨N,2,th⟩=tf (tm g.c.nm)/\w'.cell? ⟨N,3,th⟩=tf (Z U g.c.par)/\w'.cell? ⟨N,4,th⟩=tf (tn g.c.varsA g.c.nvars g.c.varsC)/\w'.cell? ⟨N,5,th⟩=tf (tt g.c.rp)/\w'.cell? ⟨N,6,th⟩=tf (tm g.c.rto)/\w'.cell? ⟨N,7,th⟩=tf (Z U g.c.rcl)/\w'.cell? ⟨N,8,th⟩=tf (tn g.c.fromA g.c.nfrom g.c.fromC)/\w'.cell? ⟨N,9,th⟩=tf (tn g.c.insA g.c.ins.length g.c.insC)/\w'.cell? ⟨N+1,1,th⟩=tf (Z U i.d)/\w'.cell? ⟨N+1,2,th⟩=tf (Z U i.a)/\w'.cell? ⟨N+1,6,th⟩=tf (tm i.sign)/\aE W1.heap.size W1 w')
   (first
    |(exact u)
    |(exact o.out _ (by first|exact(aq _ _).drew|exact((aq _ _).drew).alloc (by simp) _|exact f|exact f.alloc (by have:=f.size;omega) _|fail))
    |fail)
   (first
    |(go_at_call 188;refine(tS.out _ _ (by first|exact(aq _ _).drew|exact((aq _ _).drew).alloc (by simp) _|exact f|exact f.alloc (by have:=f.size;omega) _|fail) (HV.out _ (by first|exact .inl rfl|exact .inr rfl))).mono ?_;rintro e ua ⟨rfl,f,x⟩;have u:=o.out _ f)
    |(go_at_call 99;refine(aB _ _ _).mono ?_;rintro e A ⟨rfl,rfl⟩)
    |(go_at_call 226;refine(tE.out _ _ (by first|exact q.out _ _ rfl|(refine aR.below ?_ x;exact q.out _ _ rfl)|(refine aR.below ?_ x;refine aR.below ?_ ((aq _ _).drew);exact q.out _ _ (by first|omega|(simp<;>omega)))|(refine aR.below ?_ x;refine aR.below ?_ (by assumption);refine aR.below ?_ ((aq _ _).drew);exact q.out _ _ (by first|omega|(simp<;>omega)))|fail)).mono ?_;rintro e A ⟨rfl,rfl⟩))
  all_goals
   clear u;go_wp2;go_ret;refine⟨rfl, ?_⟩;rw[E.out];exact G.out.trans (pj (by first|exact f|exact f.alloc (by have:=f.size;omega) _) (by omega))
 |true=>
  go_enter eW,eJ
  go_wp2_with (refine cf rfl 184 _ rfl N rfl 184 (jg m g) (0,0) _ tR.out cG rfl (by kernel_rfl) ?_)
  refine wp_region_held_drew (S:=(λw'=>w'.cell? ⟨N,0,th⟩=tf (tn m.sA m.ss.length m.sC)/\w'.cell? ⟨N,1,th⟩=tf (tn m.fA m.fs.length m.fC)/\w'.cell? ⟨N,2,th⟩=tf (tm g.c.nm)/\w'.cell? ⟨N,3,th⟩=tf (Z U g.c.par)/\w'.cell? ⟨N,4,th⟩=tf (tn g.c.varsA g.c.nvars g.c.varsC)/\w'.cell? ⟨N,5,th⟩=tf (tt g.c.rp)/\w'.cell? ⟨N,6,th⟩=tf (tm g.c.rto)/\w'.cell? ⟨N,7,th⟩=tf (Z U g.c.rcl)/\w'.cell? ⟨N,8,th⟩=tf (tn g.c.fromA g.c.nfrom g.c.fromC)/\w'.cell? ⟨N,9,th⟩=tf (tn g.c.insA g.c.ins.length g.c.insC)/\w'.cell? ⟨N+1,1,th⟩=tf (Z U i.d)/\w'.cell? ⟨N+1,2,th⟩=tf (Z U i.a)/\w'.cell? ⟨N+1,6,th⟩=tf (tm i.sign)/\aE W1.heap.size W1 w')) (by kernel_rfl) (o.out _ (aq _ _).drew) (λz=> ?_);refine zW 0 (tv #[tn m.sA m.ss.length m.sC,tn m.fA m.fs.length m.fC,tm g.c.nm,Z U g.c.par,tn g.c.varsA g.c.nvars g.c.varsC,tt g.c.rp,tm g.c.rto,Z U g.c.rcl,tn g.c.fromA g.c.nfrom g.c.fromC,tn g.c.insA g.c.ins.length g.c.insC]) rfl ?_
  try simp only[cY,cx,co,bh,bx,ca]
  refine zW 1 (tr (tf ⟨N+1,1,th⟩)) rfl ?_
  try simp only[cY,cx,co,ct,bh,bx,ca]
  refine zW 2 (Z U i.d) rfl ?_
  try simp only[cY,cx,co,ct,bh,bx,ca]
  refine zW 14 (tr (tf ⟨N+1,6,th⟩)) rfl ?_
  try simp only[cY,cx,co,ct,bh,bx,ca]
  refine zW 15 (tm i.sign) rfl ?_
  try simp only[cY,cx,co,ct,bh,bx,ca]
  refine jz (rs:=[3,16]) (by kernel_rfl) (by simp) ?_;refine fN rfl (λK j=> ?_) ?_
  ·
   go_simp
   (go_at_call 188;refine(tS.out _ _ (by first|exact(aq _ _).drew|exact((aq _ _).drew).alloc (by simp) _|exact f|exact f.alloc (by have:=f.size;omega) _|fail) (HV.out _ (by first|exact .inl rfl|exact .inr rfl))).mono ?_;rintro e ua ⟨rfl,f,x⟩;have u:=o.out _ f)
   go_wp2_with fail
   refine j.out _ _ (by first|exact u|exact o.out _ (by first|exact(aq _ _).drew|exact((aq _ _).drew).alloc (by simp) _|exact f|exact f.alloc (by have:=f.size;omega) _|fail)|fail) (λz=> ?_);clear j K
   try simp only[cY,cx,co,ct,bh,bx,ca]
   refine zW 4 (tt ti) rfl ?_
   try simp only[cY,cx,co,ct,bh,bx,ca]
   refine zW 5 (tt tj) rfl ?_
   try simp only[cY,cx,co,ct,bh,bx,ca]
   refine zW 6 (tt tj) rfl ?_
   try simp only[cY,cx,co,ct,bh,bx,ca]
   refine zX 7 rfl ?_
   try simp only[cY,cx,co,ct,bh,bx,ca]
   refine zX 8 rfl ?_
   try simp only[cY,cx,co,ct,bh,bx,ca]
   refine zX 9 rfl ?_
   try simp only[cY,cx,co,ct,bh,bx,ca]
   refine zX 10 rfl ?_
   try simp only[cY,cx,co,ct,bh,bx,ca]
   refine zX 11 rfl ?_
   try simp only[cY,cx,co,ct,bh,bx,ca]
   refine zW 12 (tt tj) rfl ?_
   try simp only[cY,cx,co,ct,bh,bx,ca]
   refine jz (rs:=[13,16]) (by kernel_rfl) (by simp) ?_;refine fN rfl (λK j=> ?_) ?_
   ·
    go_simp
    (go_at_call 99;refine(aB _ _ _).mono ?_;rintro e A ⟨rfl,rfl⟩)
    go_wp2_with fail
    refine j.out _ _ (by first|exact u|exact o.out _ (by first|exact(aq _ _).drew|exact((aq _ _).drew).alloc (by simp) _|exact f|exact f.alloc (by have:=f.size;omega) _|fail)|fail) (λz=> ?_);clear j K
    try simp only[cY,cx,co,ct,bh,bx,ca]
    refine jz (rs:=[16]) (by kernel_rfl) (by simp) ?_;refine fN rfl (λK j=> ?_) ?_
    ·
     go_simp;refine j.out _ _ (by first|exact u|exact o.out _ (by first|exact(aq _ _).drew|exact((aq _ _).drew).alloc (by simp) _|exact f|exact f.alloc (by have:=f.size;omega) _|fail)|fail) (λz=> ?_);clear j K
     try simp only[cY,cx,co,ct,bh,bx,ca]
     refine jz (rs:=[17]) (by kernel_rfl) (by simp) ?_;refine fN rfl (λK j=> ?_) ?_
     ·
      go_simp
      (go_at_call 226;refine(tE.out _ _ (by first|exact q.out _ _ rfl|(refine aR.below ?_ x;exact q.out _ _ rfl)|(refine aR.below ?_ x;refine aR.below ?_ ((aq _ _).drew);exact q.out _ _ (by first|omega|(simp<;>omega)))|(refine aR.below ?_ x;refine aR.below ?_ (by assumption);refine aR.below ?_ ((aq _ _).drew);exact q.out _ _ (by first|omega|(simp<;>omega)))|fail)).mono ?_;rintro e A ⟨rfl,rfl⟩)
      go_wp2_with fail
      refine j.out _ _ (by first|exact u|exact o.out _ (by first|exact(aq _ _).drew|exact((aq _ _).drew).alloc (by simp) _|exact f|exact f.alloc (by have:=f.size;omega) _|fail)|fail) (λz=> ?_);clear j K
      try simp only[cY,cx,co,ct,bh,bx,ca]
      refine zW 18 (Z U R) rfl ?_
      try simp only[cY,cx,co,ct,bh,bx,ca]
      refine wpAnyH_done (by kernel_rfl) ?_ _;go_wp2;go_ret;refine⟨rfl, ?_⟩;rw[E.out];exact G.out.trans (pj (by first|exact f|exact f.alloc (by have:=f.size;omega) _) (by omega))
     exact hX
    exact hX
   refine fN rfl (λK j=> ?_) ?_
   ·
    go_simp;refine j.out _ _ (by first|exact u|exact o.out _ (by first|exact(aq _ _).drew|exact((aq _ _).drew).alloc (by simp) _|exact f|exact f.alloc (by have:=f.size;omega) _|fail)|fail) (λz=> ?_);clear j K
    try simp only[cY,cx,co,ct,bh,bx,ca]
    refine jz (rs:=[13]) (by kernel_rfl) (by simp) ?_;refine fN rfl (λK j=> ?_) ?_
    ·
     go_simp
     (go_at_call 99;refine(aB _ _ _).mono ?_;rintro e A ⟨rfl,rfl⟩)
     go_wp2_with fail
     refine j.out _ _ (by first|exact u|exact o.out _ (by first|exact(aq _ _).drew|exact((aq _ _).drew).alloc (by simp) _|exact f|exact f.alloc (by have:=f.size;omega) _|fail)|fail) (λz=> ?_);clear j K
     try simp only[cY,cx,co,ct,bh,bx,ca]
     refine jz (rs:=[17]) (by kernel_rfl) (by simp) ?_;refine fN rfl (λK j=> ?_) ?_
     ·
      go_simp
      (go_at_call 226;refine(tE.out _ _ (by first|exact q.out _ _ rfl|(refine aR.below ?_ x;exact q.out _ _ rfl)|(refine aR.below ?_ x;refine aR.below ?_ ((aq _ _).drew);exact q.out _ _ (by first|omega|(simp<;>omega)))|(refine aR.below ?_ x;refine aR.below ?_ (by assumption);refine aR.below ?_ ((aq _ _).drew);exact q.out _ _ (by first|omega|(simp<;>omega)))|fail)).mono ?_;rintro e A ⟨rfl,rfl⟩)
      go_wp2_with fail
      refine j.out _ _ (by first|exact u|exact o.out _ (by first|exact(aq _ _).drew|exact((aq _ _).drew).alloc (by simp) _|exact f|exact f.alloc (by have:=f.size;omega) _|fail)|fail) (λz=> ?_);clear j K
      try simp only[cY,cx,co,ct,bh,bx,ca]
      refine zW 18 (Z U R) rfl ?_
      try simp only[cY,cx,co,ct,bh,bx,ca]
      refine wpAnyH_done (by kernel_rfl) ?_ _;go_wp2;go_ret;refine⟨rfl, ?_⟩;rw[E.out];exact G.out.trans (pj (by first|exact f|exact f.alloc (by have:=f.size;omega) _) (by omega))
     exact hX
    exact hX
   exact hX
  refine fN rfl (λK j=> ?_) ?_
  ·
   go_simp;refine j.out _ _ (by first|exact u|exact o.out _ (by first|exact(aq _ _).drew|exact((aq _ _).drew).alloc (by simp) _|exact f|exact f.alloc (by have:=f.size;omega) _|fail)|fail) (λz=> ?_);clear j K
   try simp only[cY,cx,co,ct,bh,bx,ca]
   refine jz (rs:=[3]) (by kernel_rfl) (by simp) ?_;refine fN rfl (λK j=> ?_) ?_
   ·
    go_simp
    (go_at_call 188;refine(tS.out _ _ (by first|exact(aq _ _).drew|exact((aq _ _).drew).alloc (by simp) _|exact f|exact f.alloc (by have:=f.size;omega) _|fail) (HV.out _ (by first|exact .inl rfl|exact .inr rfl))).mono ?_;rintro e ua ⟨rfl,f,x⟩;have u:=o.out _ f)
    go_wp2_with fail
    refine j.out _ _ (by first|exact u|exact o.out _ (by first|exact(aq _ _).drew|exact((aq _ _).drew).alloc (by simp) _|exact f|exact f.alloc (by have:=f.size;omega) _|fail)|fail) (λz=> ?_);clear j K
    try simp only[cY,cx,co,ct,bh,bx,ca]
    refine zW 4 (tt ti) rfl ?_
    try simp only[cY,cx,co,ct,bh,bx,ca]
    refine zW 5 (tt tj) rfl ?_
    try simp only[cY,cx,co,ct,bh,bx,ca]
    refine zW 6 (tt tj) rfl ?_
    try simp only[cY,cx,co,ct,bh,bx,ca]
    refine zX 7 rfl ?_
    try simp only[cY,cx,co,ct,bh,bx,ca]
    refine zX 8 rfl ?_
    try simp only[cY,cx,co,ct,bh,bx,ca]
    refine zX 9 rfl ?_
    try simp only[cY,cx,co,ct,bh,bx,ca]
    refine zX 10 rfl ?_
    try simp only[cY,cx,co,ct,bh,bx,ca]
    refine zX 11 rfl ?_
    try simp only[cY,cx,co,ct,bh,bx,ca]
    refine zW 12 (tt tj) rfl ?_
    try simp only[cY,cx,co,ct,bh,bx,ca]
    refine jz (rs:=[13]) (by kernel_rfl) (by simp) ?_;refine fN rfl (λK j=> ?_) ?_
    ·
     go_simp
     (go_at_call 99;refine(aB _ _ _).mono ?_;rintro e A ⟨rfl,rfl⟩)
     go_wp2_with fail
     refine j.out _ _ (by first|exact u|exact o.out _ (by first|exact(aq _ _).drew|exact((aq _ _).drew).alloc (by simp) _|exact f|exact f.alloc (by have:=f.size;omega) _|fail)|fail) (λz=> ?_);clear j K
     try simp only[cY,cx,co,ct,bh,bx,ca]
     refine jz (rs:=[17]) (by kernel_rfl) (by simp) ?_;refine fN rfl (λK j=> ?_) ?_
     ·
      go_simp
      (go_at_call 226;refine(tE.out _ _ (by first|exact q.out _ _ rfl|(refine aR.below ?_ x;exact q.out _ _ rfl)|(refine aR.below ?_ x;refine aR.below ?_ ((aq _ _).drew);exact q.out _ _ (by first|omega|(simp<;>omega)))|(refine aR.below ?_ x;refine aR.below ?_ (by assumption);refine aR.below ?_ ((aq _ _).drew);exact q.out _ _ (by first|omega|(simp<;>omega)))|fail)).mono ?_;rintro e A ⟨rfl,rfl⟩)
      go_wp2_with fail
      refine j.out _ _ (by first|exact u|exact o.out _ (by first|exact(aq _ _).drew|exact((aq _ _).drew).alloc (by simp) _|exact f|exact f.alloc (by have:=f.size;omega) _|fail)|fail) (λz=> ?_);clear j K
      try simp only[cY,cx,co,ct,bh,bx,ca]
      refine zW 18 (Z U R) rfl ?_
      try simp only[cY,cx,co,ct,bh,bx,ca]
      refine wpAnyH_done (by kernel_rfl) ?_ _;go_wp2;go_ret;refine⟨rfl, ?_⟩;rw[E.out];exact G.out.trans (pj (by first|exact f|exact f.alloc (by have:=f.size;omega) _) (by omega))
     exact hX
    exact hX
   exact hX
  exact hX
def oU:bp bl:=[⟨#[110,117,109]⟩,⟨#[110,117,108,108]⟩,⟨#[99,111,112,121]⟩,⟨#[98,105,110]⟩,⟨#[103,101,116]⟩,⟨#[112,117,116]⟩,⟨#[108,111,97,100]⟩,⟨#[115,116,111,114,101]⟩,⟨#[103,105,118,101]⟩,⟨#[116,97,107,101]⟩,⟨#[115,101,116]⟩,⟨#[110,101,119]⟩,⟨#[102,114,101,101]⟩,⟨#[105,115,110,117,108,108]⟩,⟨#[99,97,108,108]⟩,⟨#[106,117,109,112]⟩,⟨#[98,114,97,110,99,104]⟩,⟨#[114,101,116]⟩]
def jc (op:aw):bl:=if op<1\/18<op then⟨#[]⟩ else(oU[(op-1).toNat]?).getD ⟨#[]⟩
theorem vH {op:aw}(g:¬op<1)(h:¬18<op):∃(k:bj) (s:bl),op-1=(k:aw)/\k<18/\oU[k]?=tf s/\jc op=s:=by
 obtain⟨k,d⟩:∃k:bj,op-1=(k:aw):=⟨(op-1).toNat,by omega⟩
 have e:k<18:=by omega
 obtain⟨s,f⟩:∃s,oU[k]?=tf s:=⟨_,ap (show k<oU.length from e)⟩
 refine⟨k,s,d,e,f, ?_⟩;unfold jc;rw[bw (by omega),d,ep,f];rfl
theorem zb {op:aw}:(jc op==⟨#[]⟩)=(decide (op<1)||decide (18<op)):=by
 by_cases h:op<1\/18<op
 ·have e:jc op=⟨#[]⟩:=cH h
  rw[e];rcases h with h|h
  ·rw[cR h];rfl
  ·rw[cR h,Bool.or_true];rfl
 ·obtain⟨k,s,o,d,f,g⟩:=vH (op:=op) (by omega) (by omega)
  rw[g,cm (by omega),cm (by omega)];have:∀j:bj,j<18->∀s,oU[j]?=tf s->(s==(⟨#[]⟩:bl))=tj:=by decide
  exact this k d s f
theorem kz (op:aw)(w:World):zP 183 #[Z U op] w (tm (jc op)):=by
 have hst:∀(c:dl cw),c.size=18->(dd ⟨w.heap.size,0,th⟩ [tm ⟨#[110,117,109]⟩,tm ⟨#[110,117,108,108]⟩,tm ⟨#[99,111,112,121]⟩,tm ⟨#[98,105,110]⟩,tm ⟨#[103,101,116]⟩,tm ⟨#[112,117,116]⟩,tm ⟨#[108,111,97,100]⟩,tm ⟨#[115,116,111,114,101]⟩,tm ⟨#[103,105,118,101]⟩,tm ⟨#[116,97,107,101]⟩,tm ⟨#[115,101,116]⟩,tm ⟨#[110,101,119]⟩,tm ⟨#[102,114,101,101]⟩,tm ⟨#[105,115,110,117,108,108]⟩,tm ⟨#[99,97,108,108]⟩,tm ⟨#[106,117,109,112]⟩,tm ⟨#[98,114,97,110,99,104]⟩,tm ⟨#[114,101,116]⟩] 0).run am (w.alloc (tA c 316))= .ok () (w.alloc (tA #[tm ⟨#[110,117,109]⟩,tm ⟨#[110,117,108,108]⟩,tm ⟨#[99,111,112,121]⟩,tm ⟨#[98,105,110]⟩,tm ⟨#[103,101,116]⟩,tm ⟨#[112,117,116]⟩,tm ⟨#[108,111,97,100]⟩,tm ⟨#[115,116,111,114,101]⟩,tm ⟨#[103,105,118,101]⟩,tm ⟨#[116,97,107,101]⟩,tm ⟨#[115,101,116]⟩,tm ⟨#[110,101,119]⟩,tm ⟨#[102,114,101,101]⟩,tm ⟨#[105,115,110,117,108,108]⟩,tm ⟨#[99,97,108,108]⟩,tm ⟨#[106,117,109,112]⟩,tm ⟨#[98,114,97,110,99,104]⟩,tm ⟨#[114,101,116]⟩] 316)):=λc j=>
  cr (P:=am) w 316 c #[tm ⟨#[110,117,109]⟩,tm ⟨#[110,117,108,108]⟩,tm ⟨#[99,111,112,121]⟩,tm ⟨#[98,105,110]⟩,tm ⟨#[103,101,116]⟩,tm ⟨#[112,117,116]⟩,tm ⟨#[108,111,97,100]⟩,tm ⟨#[115,116,111,114,101]⟩,tm ⟨#[103,105,118,101]⟩,tm ⟨#[116,97,107,101]⟩,tm ⟨#[115,101,116]⟩,tm ⟨#[110,101,119]⟩,tm ⟨#[102,114,101,101]⟩,tm ⟨#[105,115,110,117,108,108]⟩,tm ⟨#[99,97,108,108]⟩,tm ⟨#[106,117,109,112]⟩,tm ⟨#[98,114,97,110,99,104]⟩,tm ⟨#[114,101,116]⟩] (by show _=tf 18;kernel_rfl) j (by simp[cn])
 have y:∀w,(Instr.build 316 #[(0,tm ⟨#[110,117,109]⟩),(1,tm ⟨#[110,117,108,108]⟩),(2,tm ⟨#[99,111,112,121]⟩),(3,tm ⟨#[98,105,110]⟩),(4,tm ⟨#[103,101,116]⟩),(5,tm ⟨#[112,117,116]⟩),(6,tm ⟨#[108,111,97,100]⟩),(7,tm ⟨#[115,116,111,114,101]⟩),(8,tm ⟨#[103,105,118,101]⟩),(9,tm ⟨#[116,97,107,101]⟩),(10,tm ⟨#[115,101,116]⟩),(11,tm ⟨#[110,101,119]⟩),(12,tm ⟨#[102,114,101,101]⟩),(13,tm ⟨#[105,115,110,117,108,108]⟩),(14,tm ⟨#[99,97,108,108]⟩),(15,tm ⟨#[106,117,109,112]⟩),(16,tm ⟨#[98,114,97,110,99,104]⟩),(17,tm ⟨#[114,101,116]⟩)]).run am w= .ok (tv #[tm ⟨#[110,117,109]⟩,tm ⟨#[110,117,108,108]⟩,tm ⟨#[99,111,112,121]⟩,tm ⟨#[98,105,110]⟩,tm ⟨#[103,101,116]⟩,tm ⟨#[112,117,116]⟩,tm ⟨#[108,111,97,100]⟩,tm ⟨#[115,116,111,114,101]⟩,tm ⟨#[103,105,118,101]⟩,tm ⟨#[116,97,107,101]⟩,tm ⟨#[115,101,116]⟩,tm ⟨#[110,101,119]⟩,tm ⟨#[102,114,101,101]⟩,tm ⟨#[105,115,110,117,108,108]⟩,tm ⟨#[99,97,108,108]⟩,tm ⟨#[106,117,109,112]⟩,tm ⟨#[98,114,97,110,99,104]⟩,tm ⟨#[114,101,116]⟩]) w:=λw=>by kernel_rfl
 obtain⟨N,e⟩:=zE w.heap.size;obtain⟨W1,g⟩:=zE (w.alloc (tA #[tm ⟨#[110,117,109]⟩,tm ⟨#[110,117,108,108]⟩,tm ⟨#[99,111,112,121]⟩,tm ⟨#[98,105,110]⟩,tm ⟨#[103,101,116]⟩,tm ⟨#[112,117,116]⟩,tm ⟨#[108,111,97,100]⟩,tm ⟨#[115,116,111,114,101]⟩,tm ⟨#[103,105,118,101]⟩,tm ⟨#[116,97,107,101]⟩,tm ⟨#[115,101,116]⟩,tm ⟨#[110,101,119]⟩,tm ⟨#[102,114,101,101]⟩,tm ⟨#[105,115,110,117,108,108]⟩,tm ⟨#[99,97,108,108]⟩,tm ⟨#[106,117,109,112]⟩,tm ⟨#[98,114,97,110,99,104]⟩,tm ⟨#[114,101,116]⟩] 316));have o:=ik g e;have d:=zH o;have h:=zH e;have z:W1.heap.size=N+1:=by rw[<-g];simp[e]
 have q:W1.heap[N]?=tf (tA (oU.map eM).toArray 316 (0,0)):=by rw[<-g,<-e];exact alloc_at _ _
 rw[e,g] at hst;clear o
 by_cases t:op<1
 ·have f:cg (jc op=⟨#[]⟩):=cH (.inl t)
  go_enter func183,ntmps183;go_wp2;go_ret;rw[f.out];exact⟨rfl,by first|exact d.out|(rw[h.out];exact d.out)⟩
 by_cases u:18<op
 ·have f:cg (jc op=⟨#[]⟩):=cH (.inr u)
  go_enter func183,ntmps183;go_wp2;go_ret;rw[f.out];exact⟨rfl,by first|exact d.out|(rw[h.out];exact d.out)⟩
 obtain⟨k,s,A,E,v,x⟩:=vH t u;have j:W1.cell? ⟨N,k,th⟩=tf (tm s):=by
  rw[bt _ _ _ _ _ _ q];simp[v]
 have f:=zH x;have G:(k:aw)<18:=by omega
 clear q v x;go_enter func183,ntmps183;go_wp2;go_ret;rw[f.out];exact⟨rfl,by first|exact d.out|(rw[h.out];exact d.out)⟩
theorem ql (m:Mo)(g:Fn)(i:Ins)(w:World)(f:1<=i.op/\i.op<=14)(h:dI w m g i):
  zP 189 #[tv (jg m g),tv i.cells] w (Z U (au m g.vs i)):=by
 have d:i.op=1\/i.op=2\/i.op=3\/i.op=4\/i.op=5\/i.op=6\/i.op=7\/i.op=8\/i.op=9\/i.op=10\/i.op=11\/i.op=12\/i.op=13\/i.op=14:=by omega
 rcases d with e|e|e|e|e|e|e|e|e|e|e|e|e|e
 ·exact Fq m g i w e h
 ·exact Fw m g i w e h
 ·exact Fv m g i w e h
 ·exact FD m g i w e h
 ·exact Fs m g i w e h
 ·exact Fu m g i w e h
 ·exact Fy m g i w e h
 ·exact Fz m g i w e h
 ·exact FC m g i w e h
 ·exact Ej m g i w e h
 ·exact El m g i w e h
 ·exact Em m g i w e h
 ·exact Ei m g i w e h
 ·exact En m g i w e h
structure FE (w:World)(m:Mo)(g:Fn)(i:Ins):Prop where
 j:nR w m g
 ar:i.args_in w
 al:i.args.length<=40
 kn:∀v,isVar g.vs.length v=ti->m.known (ax g.vs v)=ti
theorem kC {W1 W:World}{N:bj}(hb:aE W1.heap.size W1 W){o:Obj}(h:W1.heap[N]?=tf o):W.heap[N]?=tf o:=
 (hb.block N (br.1 h).1).trans h
theorem nU (op:aw):(jc op).toList.isEmpty=(decide (op<1)||decide (18<op)):=by
 rw[<-zb,fx];have e:(⟨#[]⟩:bl).toList=[]:=by rw[oA]
 rw[e];cases (jc op).toList<;>rfl
def jd (w5:World)(N:bj)(m:Mo)(g:Fn)(i:Ins):Prop:=∀W,aE w5.heap.size w5 W->W.heap[N]?=tf (tA (jg m g) 184 (0,0))/\W.heap[N+1]?=tf (tA i.cells 42 (0,0))
theorem jd.next {w5 d:World}{N:bj}{m:Mo}{g:Fn}{i:Ins}(h:jd w5 N m g i)(hb:aE w5.heap.size w5 d):jd d N m g i:=λW e=>h W (hb.trans (e.mono hb.size))
theorem jd.lt {w5:World}{N:bj}{m:Mo}{g:Fn}{i:Ins}(h:jd w5 N m g i):N+1<w5.heap.size:=(br.1 (h w5 (aq _ _)).2).1
def dN (m:Mo)(g:Fn)(i:Ins):aw:=
 if i.op=15 then gU m g.vs i
 else if i.op=16 then bN (isVar g.c.ins.length i.tI) 15
 else if i.op=17 then(if isVar g.c.ins.length i.tI&&isVar g.c.ins.length i.els then dQ g.vs [i.a] else 15)
 else if i.op=18 then bN (ax g.vs i.a==g.ret) 7
 else au m g.vs i
theorem xk {m:Mo}{g:Fn}{i:Ins}(h:¬(i.op<1\/18<i.op)):aF m g i=if aK g.vs.length (readsOf i++(if qH i.op then[i.d] else[]))=tj then 15 else dN m g i:=bw h
theorem vI {n:bj}{l:bp aw}(h:aK n l=ti){v:aw}(d:v∈l):isVar n v=ti:=gn.1 h v d
theorem oV {i:Ins}{l:bp aw}(h:uy i.op=ti):i.a∈readsOf i++l:=by unfold readsOf;rw[cH h];simp
theorem Eo {i:Ins}{l:bp aw}(h:rT i.op=ti):i.b∈readsOf i++l:=by unfold readsOf;rw[cH h];simp
theorem vJ {i:Ins}{l:bp aw}(h:i.op=15){a:aw}(d:a∈i.args):a∈readsOf i++l:=by unfold readsOf;rw[cH h];simp[d]
theorem Cm {i:Ins}(h:qH i.op=ti):i.d∈readsOf i++(if qH i.op then[i.d] else[]):=by rw[cH h];simp
theorem ze (m:Mo)(g:Fn)(i:Ins)(w:World)(h:FE w m g i):
  zP 136 #[tv (jg m g),tv i.cells] w (Z U (aF m g i)):=by
 have tM:=zH h;obtain⟨R,hR⟩:=zE (aF m g i);rw[hR];have HR:=zH hR;clear h hR;obtain⟨N,hN⟩:=zE w.heap.size;obtain⟨W1,yb⟩:=zE ((w.alloc (tA (jg m g) 184)).alloc (tA i.cells 42));have zv:=vg yb hN;have A6:W1.heap.size=N+2:=by rw[<-yb];simp[hN]
 have An:=vZ yb hN;have yk:=yo yb hN;have i0:=zR yk 0 (Z U i.op);have yd:cg (jd W1 N m g i):=λW K=>⟨kC K An,kC K yk⟩
 have yp:=zH zv;have x:=zH hN;have Bk:N+1<W1.heap.size:=by omega
 clear zv An yk
 by_cases vy:i.op<1\/18<i.op
 ·have o:cg (R=3):=by unfold cg;rw[<-HR.out];exact cH vy
  have yq:(jc i.op).toList.isEmpty=ti:=by rw[nU];simpa using vy
  clear vy;go_enter func136,ntmps136
  go_wp2_with (go_at_call 183;refine(kz _ _).mono ?_;rintro e w2 ⟨rfl,ux⟩;have vc:=zH ux;clear ux)
  go_ret;rw[o.out,x.out];exact⟨rfl,yp.out.trans (vc.out.mono (by omega))⟩
 have ua:=zH (xk (m:=m) (g:=g) vy);rw[HR.out] at ua;have At:=zH vy;have yq:(jc i.op).toList.isEmpty=tj:=by
  rw[nU,cm (by omega),cm (by omega)];rfl
 clear vy HR;have wl:cg (∀W,aE w.heap.size w W->fj am 144 #[tv i.cells] W (iT W (readsOf i))):=λW K=>mD i W (tM.out.ar.below K) tM.out.al;have we:cg (∀W,zP 142 #[tv i.cells] W (.tuple #[Z U (az i).1,tt (az i).2])):=λW=>kX i W tM.out.ar.1;have wg:cg ((readsOf i).length<=42):=qi i tM.out.al;obtain⟨rs,yr⟩:=zE (readsOf i);have ye:=zH yr;rw[yr] at wl wg;clear yr;go_enter func136,ntmps136;cases hd:qH i.op with
 |true=>
  have e1:(az i).1=i.d:=by unfold az;rw[hd];rfl
  have e2:(az i).2=ti:=by unfold az;rw[hd];rfl
  rw[e1,e2] at we;clear e1 e2
  go_upto_region 6 with(first
   |(go_at_call 183;refine(kz _ _).mono ?_;rintro e w2 ⟨rfl,ux⟩;have ub:=zH (yd.out.next ux);have vc:cg (aE N w w2):=yp.out.trans (ux.mono (by omega));clear ux)
   |(refine cf rfl 42 _ rfl (N+1) rfl 42 i.cells (0,0) _ ((ub.out _ (aq _ _)).2) cA rfl (by kernel_rfl) ?_)
   |(refine cf rfl 42 _ rfl (N+1) rfl 42 i.cells (0,0) _ ((vd.out _ (aq _ _)).2) cA rfl (by kernel_rfl) ?_)
   |(go_at_call 144;refine(wl.out _ (by rw[x.out];exact vc.out)).mono ?_;rintro e w3 ⟨ws,xf,rfl,xj,vf⟩;have xl:=zH xj;have vd:=zH (ub.out.next vf);have xo:cg (aE N w w3):=vc.out.trans (vf.mono (by have:=ub.out.lt;omega));have AI:=vf.size;clear vf xj)
   |(go_at_call 142;refine(we.out _).mono ?_;rintro e w4 ⟨rfl,uc⟩;have Ax:=zH (vd.out.next uc);have wj:=zH (ownsRow_below xl.out uc);have AD:cg (aE N w w4):=xo.out.trans (uc.mono (by have:=vd.out.lt;omega));have AK:=uc.size;clear uc))
  go_upto_region 7 with(at_builtin;refine aL rfl (.tmp 20) (.tmp 22) rfl w2.heap.size (tn ws rs.length xf) rs rfl (ownsRow_below wj.out ((aq _ _).alloc (cd _) _)) _ [i.d] 1 rfl (ak.one _ _ rfl) ?c1 ?c2 ?_)
  case c1=>have:=wg.out;simp;omega
  case c2=>simp;omega
  intro v5 w5 yi AE;obtain⟨AF,AH,rfl⟩:=yi.isSlice;have wk:aE w2.heap.size w4 w5:=below_grown (v:= tn ws rs.length xf) (xs:=rs) ((aq _ _).alloc (by omega) _) (by simp;omega) (ownsRow_below wj.out ((aq _ _).alloc (cd _) _)) AE;have AM:=ub.out.lt;have vp:cg (aE N w w5):=AD.out.trans (wk.mono (by omega));have vq:cg (jd w5 N m g i):=λW K=>by
   have q:=Ax.out w4 (aq _ _);have h5:=wk.size;exact⟨(K.block N (by omega)).trans ((wk.block N (by omega)).trans q.1),(K.block (N+1) (by omega)).trans ((wk.block (N+1) (by omega)).trans q.2)⟩
  have AN:=wk.size;obtain⟨L5,xp⟩:=zE (rs++[i.d]);rw[xp] at yi;have HL:cg (L5=readsOf i++(if qH i.op then[i.d] else[])):=by unfold cg;rw[hd,ye.out,<-xp];rfl
  have vh:cg (zP 184 #[tv (jg m g),tn AF L5.length AH] w5 (tt (aK g.vs.length L5))):=
   qj m g AF L5 AH w5 tM.out.j.nv (by have:=wg.out;rw[<-xp];unfold du;simp;omega) yi.at_
  rw[<-HL.out] at ua;rw[xp];have AS:=zH hd;clear yi AE wk xl wj ub vd Ax yd vc xo AD xp wl we wg ye yq i0 hd;have vr:=zH (vq.out w5 (aq _ _));obtain⟨tb,vm⟩:=zE (aK g.vs.length L5);rw[vm] at vh;rw[vm] at ua;have xr:=zH vm;clear vm;cases tb with
  |false=>
   have o:cg (R=15):=ua.out
   go_wp2_with (first
    |(refine cf rfl 184 _ rfl N rfl 184 (jg m g) (0,0) _ (vr.out.1) cG rfl (by kernel_rfl) ?_)
    |(go_at_call 184;refine vh.out.mono ?_;rintro e f ⟨rfl,ud⟩;have ue:=zH ud;clear ud))
   go_ret;rw[o.out,x.out];exact⟨rfl,vp.out.trans (ue.out.mono (by omega))⟩
  |true=>
   have A:cg (R=dN m g i):=ua.out;clear ua
   go_upto_region 9 with(first
    |(refine cf rfl 184 _ rfl N rfl 184 (jg m g) (0,0) _ (vr.out.1) cG rfl (by kernel_rfl) ?_)
    |(go_at_call 184;refine vh.out.mono ?_;rintro e f ⟨rfl,ud⟩;have ue:=zH ud;clear ud))
   have up:cg (jd f N m g i):=vq.out.next ue.out
   have tE:cg (aE N w f):=vp.out.trans (ue.out.mono (by omega));have AT:=up.out.lt;have E:=zH (up.out f (aq _ _));have ur:cg (nR f m g):=tM.out.j.below (by rw[x.out];exact tE.out);have z0:=zR E.out.2 0 (Z U i.op);have z2:=zR E.out.2 2 (Z U i.a);have z9:=zR E.out.2 9 (Z U i.tI);have xt:=zR E.out.2 10 (Z U i.els);have tP:cg (∀v∈L5,isVar g.vs.length v=ti):=λv hv=>vI xr.out hv;clear vq vh ue vp vr xr
   by_cases G:i.op=15
   ·have o:cg (R=gU m g.vs i):=by unfold cg;rw[A.out];exact cH G
    have yv:cg (zP 185 #[tv (jg m g),tv i.cells] f (Z U (gU m g.vs i))):=
     rW m g i f ur.out (tM.out.ar.below (by rw[x.out];exact tE.out)) (by have:=tM.out.al;unfold du;omega) (tP.out _ (by rw[HL.out];exact Cm (by rw[G];rfl))) (λa ha=>tP.out a (by rw[HL.out];exact vJ G ha))
    rw[G] at z0;clear A
    go_wp2_with (first
     |(refine cf rfl 184 _ rfl N rfl 184 (jg m g) (0,0) _ (E.out.1) cG rfl (by kernel_rfl) ?_)
     |(refine cf rfl 42 _ rfl (N+1) rfl 42 i.cells (0,0) _ (E.out.2) cA rfl (by kernel_rfl) ?_)
     |(go_at_call 185;refine yv.out.mono ?_;rintro e u ⟨rfl,z⟩;have tR:=zH z;clear z))
    go_ret;rw[o.out,x.out];exact⟨rfl,tE.out.trans (tR.out.mono (by omega))⟩
   have AW:(i.op==15)=tj:=by rw[cN];exact G
   by_cases tS:i.op=16
   ·have o:cg (R=bN (isVar g.c.ins.length i.tI) 15):=by unfold cg;rw[A.out];unfold dN;rw[bw G,cH tS]
    rw[tS] at z0;clear A
    go_wp2_with (first
     |(refine cf rfl 184 _ rfl N rfl 184 (jg m g) (0,0) _ (E.out.1) cG rfl (by kernel_rfl) ?_)
     |(go_at_call 186;refine(gG m g i.tI f).mono ?_;rintro e u ⟨rfl,z⟩;have tR:=zH z;clear z)
     |(go_at_call 99;refine(aB _ _ _).mono ?_;rintro e w8 ⟨rfl,rfl⟩))
    go_ret;rw[o.out,x.out];exact⟨rfl,tE.out.trans (tR.out.mono (by omega))⟩
   have A1:(i.op==16)=tj:=by rw[cN];exact tS
   by_cases tU:i.op=17
   ·have o:cg (R=if isVar g.c.ins.length i.tI&&isVar g.c.ins.length i.els then dQ g.vs [i.a] else 15):=by unfold cg;rw[A.out];unfold dN;rw[bw G,bw tS,cH tU]
    have vt:cg (isVar g.vs.length i.a=ti):=tP.out _ (by rw[HL.out];exact oV (by rw[tU];rfl));rw[tU] at z0;obtain⟨t1,yy⟩:=zE (isVar g.c.ins.length i.tI);obtain⟨t2,yW⟩:=zE (isVar g.c.ins.length i.els);rw[yy,yW] at o;clear A;cases t1 with
    |false=>
     go_wp2_with (first
      |(refine cf rfl 184 _ rfl N rfl 184 (jg m g) (0,0) _ (E.out.1) cG rfl (by kernel_rfl) ?_)
      |(go_at_call 186;refine(gG m g _ _).mono ?_;rintro e u ⟨rfl,z⟩;have tR:=zH z;clear z))
     go_ret;rw[o.out,x.out];exact⟨rfl,tE.out.trans (tR.out.mono (by omega))⟩
    |true=>
     have xF:cg (∀(W:World)(v:aw),jd W N m g i->aE N w W->fj am 186 #[tv (jg m g),Z U v] W λe w'=>e= tB (tt (isVar g.c.ins.length v))/\jd w' N m g i/\aE N w w'):=λW v K hB=>(gG m g v W).mono (by
      rintro e w' ⟨rfl,hb⟩;exact⟨rfl,K.next hb,hB.trans (hb.mono (by have:=K.lt;omega))⟩)
     have tD:=up;have tG:=tE;cases t2 with
     |false=>
      go_wp2_with (first
       |(refine cf rfl 184 _ rfl N rfl 184 (jg m g) (0,0) _ ((tD.out _ (aq _ _)).1) cG rfl (by kernel_rfl) ?_)
       |(go_at_call 186;refine(xF.out _ _ tD.out tG.out).mono ?_;clear tD tG;rintro e u ⟨rfl,y,uv⟩;have zc:=y.lt;obtain⟨y0,y1,y2,y3,y4,y5,y6,y7,y8,y9⟩:=jk.of (y u (aq _ _)).1;have xt:u.cell? ⟨N+1,10,th⟩=tf (Z U i.els):=bt _ _ _ _ _ _ (y u (aq _ _)).2;have tD:=zH y;have tG:=zH uv;clear y uv))
      go_ret;rw[o.out,x.out];exact⟨rfl,tG.out⟩
     |true=>
      have zd:cg (∀(W:World),jd W N m g i->aE N w W->fj am 187 #[tv (jg m g),tn (tf ⟨W.heap.size,0,th⟩) 1 1] (W.alloc (tA #[Z U i.a] 3)) λe w'=>e= tB (Z U (dQ g.vs [i.a]))/\aE N w w'):=by
       intro W K hB;have xT:aE N w (W.alloc (tA #[Z U i.a] 3)):=hB.alloc (by have:=K.lt;omega) _;have hj:=tM.out.j.below (by rw[x.out];exact xT);refine(cB m g (tf ⟨W.heap.size,0,th⟩) [i.a] 1 (W.alloc (tA #[Z U i.a] 3)) hj.vars hj.nv hj.vl (by unfold du;simp) za (by simp;exact vt.out)).mono ?_;rintro e w' ⟨rfl,hb⟩;exact⟨rfl,xT.trans (hb.mono (by have:=K.lt;simp;omega))⟩
      go_wp2_with (first
       |(refine cf rfl 184 _ rfl N rfl 184 (jg m g) (0,0) _ ((tD.out _ (aq _ _)).1) cG rfl (by kernel_rfl) ?_)
       |(go_at_call 186;refine(xF.out _ _ tD.out tG.out).mono ?_;clear tD tG;rintro e u ⟨rfl,y,uv⟩;have zc:=y.lt;obtain⟨y0,y1,y2,y3,y4,y5,y6,y7,y8,y9⟩:=jk.of (y u (aq _ _)).1;have xt:u.cell? ⟨N+1,10,th⟩=tf (Z U i.els):=bt _ _ _ _ _ _ (y u (aq _ _)).2;have z2:u.cell? ⟨N+1,2,th⟩=tf (Z U i.a):=bt _ _ _ _ _ _ (y u (aq _ _)).2;have tD:=zH y;have tG:=zH uv;clear y uv)
       |(go_at_call 187;refine(zd.out _ tD.out tG.out).mono ?_;rintro e w9 ⟨rfl,ya⟩;have zj:=zH ya;clear ya))
      go_ret;rw[o.out,x.out];exact⟨rfl,zj.out⟩
   have A2:(i.op==17)=tj:=by rw[cN];exact tU
   by_cases tW:i.op=18
   ·have o:cg (R=bN (ax g.vs i.a==g.ret) 7):=by unfold cg;rw[A.out];unfold dN;rw[bw G,bw tS,bw tU,cH tW]
    have vt:cg (isVar g.vs.length i.a=ti):=tP.out _ (by rw[HL.out];exact oV (by rw[tW];rfl));rw[tW] at z0;obtain⟨⟨ba,sa⟩,vu⟩:∃t,ax g.vs i.a=t:=⟨_,rfl⟩
    obtain⟨d,vx⟩:=zE (((ba,sa):Ty)==(g.c.rp,g.c.rto));have A3:∀w,(gt 10000 32 (tv #[tt ba,tm sa]) (tv #[tt g.c.rp,tm g.c.rto])).run am w= .ok d w:=λw=>by rw[dB,vx]
    have zp:cg (R=bN d 7):=by unfold cg;rw[o.out,vu,<-vx];rfl
    have zr:cg (∀p:BW f,zP 188 #[tv #[tn m.sA m.ss.length m.sC,tn m.fA m.fs.length m.fC,tm g.c.nm,Z U g.c.par,tn g.c.varsA g.c.nvars g.c.varsC,tt g.c.rp,tm g.c.rto,Z U g.c.rcl,tn g.c.fromA g.c.nfrom g.c.fromC,tn g.c.insA g.c.ins.length g.c.insC],Z U i.a] p.w (tv #[tt ba,tm sa])):=λp=>by
     have:=gF m g i.a p.w (ur.out.below p.h).vars ur.out.nv ur.out.vl vt.out;rw[vu] at this;exact this
    have J:cg (∀p:BW f,jk p.w N m g):=λp=>jk.of (up.out p.w p.h).1;have k0:∀p:BW f,p.w.cell? ⟨N,0,th⟩=tf (tn m.sA m.ss.length m.sC):=λp=>(J.out p).1;have k1:∀p:BW f,p.w.cell? ⟨N,1,th⟩=tf (tn m.fA m.fs.length m.fC):=λp=>(J.out p).2.1;have k2:∀p:BW f,p.w.cell? ⟨N,2,th⟩=tf (tm g.c.nm):=λp=>(J.out p).2.2.1;have k3:∀p:BW f,p.w.cell? ⟨N,3,th⟩=tf (Z U g.c.par):=λp=>(J.out p).2.2.2.1;have k4:∀p:BW f,p.w.cell? ⟨N,4,th⟩=tf (tn g.c.varsA g.c.nvars g.c.varsC):=λp=>(J.out p).2.2.2.2.1;have k5:∀p:BW f,p.w.cell? ⟨N,5,th⟩=tf (tt g.c.rp):=λp=>(J.out p).2.2.2.2.2.1;have k6:∀p:BW f,p.w.cell? ⟨N,6,th⟩=tf (tm g.c.rto):=λp=>(J.out p).2.2.2.2.2.2.1;have k7:∀p:BW f,p.w.cell? ⟨N,7,th⟩=tf (Z U g.c.rcl):=λp=>(J.out p).2.2.2.2.2.2.2.1;have k8:∀p:BW f,p.w.cell? ⟨N,8,th⟩=tf (tn g.c.fromA g.c.nfrom g.c.fromC):=λp=>(J.out p).2.2.2.2.2.2.2.2.1;have k9:∀p:BW f,p.w.cell? ⟨N,9,th⟩=tf (tn g.c.insA g.c.ins.length g.c.insC):=λp=>(J.out p).2.2.2.2.2.2.2.2.2;have A4:∀p:BW f,p.w.cell? ⟨N+1,2,th⟩=tf (Z U i.a):=λp=>by rw[bt _ _ _ _ _ _ (up.out p.w p.h).2];rfl
    clear A vu vx o;go_wp2;refine zQ ?_
    repeat (go_big_quiet_step (first
     |(go_at_call 188;exact bg (zr.out _))
     |(go_at_call 99;exact jr (aB _ _ _))))
    refine dr ?_;rintro _ ⟨p,rfl⟩;go_wp2;go_ret;rw[zp.out,x.out];exact⟨rfl,tE.out.trans (p.h.mono (by omega))⟩
   have A5:(i.op==18)=tj:=by rw[cN];exact tW
   have o:cg (R=au m g.vs i):=by unfold cg;rw[A.out];unfold dN;rw[bw G,bw tS,bw tU,bw tW]
   have zs:cg (zP 189 #[tv (jg m g),tv i.cells] f (Z U (au m g.vs i))):=
    ql m g i f (by have:=At.out;omega) ⟨ur.out,λh=>tP.out _ (by rw[HL.out];exact Cm h),λh=>tP.out _ (by rw[HL.out];exact oV h),λh=>tP.out _ (by rw[HL.out];exact Eo h),tM.out.kn⟩
   clear A G tS tU tW
   go_wp2_with (first
    |(refine cf rfl 184 _ rfl N rfl 184 (jg m g) (0,0) _ (E.out.1) cG rfl (by kernel_rfl) ?_)
    |(refine cf rfl 42 _ rfl (N+1) rfl 42 i.cells (0,0) _ (E.out.2) cA rfl (by kernel_rfl) ?_)
    |(go_at_call 189;refine zs.out.mono ?_;rintro e u ⟨rfl,z⟩;have tR:=zH z;clear z))
   go_ret;rw[o.out,x.out];exact⟨rfl,tE.out.trans (tR.out.mono (by omega))⟩
 |false=>
  have e1:(az i).1=0:=by unfold az;rw[hd];rfl
  have e2:(az i).2=tj:=by unfold az;rw[hd];rfl
  rw[e1,e2] at we;clear e1 e2
  go_upto_region 7 with(first
   |(go_at_call 183;refine(kz _ _).mono ?_;rintro e w2 ⟨rfl,ux⟩;have ub:=zH (yd.out.next ux);have vc:cg (aE N w w2):=yp.out.trans (ux.mono (by omega));clear ux)
   |(refine cf rfl 42 _ rfl (N+1) rfl 42 i.cells (0,0) _ ((ub.out _ (aq _ _)).2) cA rfl (by kernel_rfl) ?_)
   |(refine cf rfl 42 _ rfl (N+1) rfl 42 i.cells (0,0) _ ((vd.out _ (aq _ _)).2) cA rfl (by kernel_rfl) ?_)
   |(go_at_call 144;refine(wl.out _ (by rw[x.out];exact vc.out)).mono ?_;rintro e w3 ⟨ws,xf,rfl,xj,vf⟩;have xl:=zH xj;have vd:=zH (ub.out.next vf);have xo:cg (aE N w w3):=vc.out.trans (vf.mono (by have:=ub.out.lt;omega));have AI:=vf.size;clear vf xj)
   |(go_at_call 142;refine(we.out _).mono ?_;rintro e w5 ⟨rfl,uc⟩;have vq:=zH (vd.out.next uc);have wj:=zH (ownsRow_below xl.out uc);have vp:cg (aE N w w5):=xo.out.trans (uc.mono (by have:=vd.out.lt;omega));have AK:=uc.size;clear uc))
  have HL:cg (rs=readsOf i++(if qH i.op then[i.d] else[])):=by unfold cg;rw[hd,ye.out];simp
  have vh:cg (zP 184 #[tv (jg m g),tn ws rs.length xf] w5 (tt (aK g.vs.length rs))):=
   qj m g ws rs xf w5 tM.out.j.nv (by have:=wg.out;unfold du;omega) (aU.at_ wj.out)
  rw[<-HL.out] at ua;have AS:=zH hd;have AM:=ub.out.lt;have AN:w2.heap.size<=w5.heap.size:=by omega
  clear xl wj ub vd yd vc xo wl we wg ye yq i0 hd;have vr:=zH (vq.out w5 (aq _ _));obtain⟨tb,vm⟩:=zE (aK g.vs.length rs);rw[vm] at vh;rw[vm] at ua;have xr:=zH vm;clear vm;cases tb with
  |false=>
   have o:cg (R=15):=ua.out
   go_wp2_with (first
    |(refine cf rfl 184 _ rfl N rfl 184 (jg m g) (0,0) _ (vr.out.1) cG rfl (by kernel_rfl) ?_)
    |(go_at_call 184;refine vh.out.mono ?_;rintro e f ⟨rfl,ud⟩;have ue:=zH ud;clear ud))
   go_ret;rw[o.out,x.out];exact⟨rfl,vp.out.trans (ue.out.mono (by omega))⟩
  |true=>
   have A:cg (R=dN m g i):=ua.out;clear ua
   go_upto_region 9 with(first
    |(refine cf rfl 184 _ rfl N rfl 184 (jg m g) (0,0) _ (vr.out.1) cG rfl (by kernel_rfl) ?_)
    |(go_at_call 184;refine vh.out.mono ?_;rintro e f ⟨rfl,ud⟩;have ue:=zH ud;clear ud))
   have up:cg (jd f N m g i):=vq.out.next ue.out
   have tE:cg (aE N w f):=vp.out.trans (ue.out.mono (by omega));have AT:=up.out.lt;have E:=zH (up.out f (aq _ _));have ur:cg (nR f m g):=tM.out.j.below (by rw[x.out];exact tE.out);have z0:=zR E.out.2 0 (Z U i.op);have z2:=zR E.out.2 2 (Z U i.a);have z9:=zR E.out.2 9 (Z U i.tI);have xt:=zR E.out.2 10 (Z U i.els);have tP:cg (∀v∈rs,isVar g.vs.length v=ti):=λv hv=>vI xr.out hv;clear vq vh ue vp vr xr
   by_cases G:i.op=15
   ·have o:cg (R=gU m g.vs i):=by unfold cg;rw[A.out];exact cH G
    have yv:cg (zP 185 #[tv (jg m g),tv i.cells] f (Z U (gU m g.vs i))):=
     rW m g i f ur.out (tM.out.ar.below (by rw[x.out];exact tE.out)) (by have:=tM.out.al;unfold du;omega) (tP.out _ (by rw[HL.out];exact Cm (by rw[G];rfl))) (λa ha=>tP.out a (by rw[HL.out];exact vJ G ha))
    rw[G] at z0;clear A
    go_wp2_with (first
     |(refine cf rfl 184 _ rfl N rfl 184 (jg m g) (0,0) _ (E.out.1) cG rfl (by kernel_rfl) ?_)
     |(refine cf rfl 42 _ rfl (N+1) rfl 42 i.cells (0,0) _ (E.out.2) cA rfl (by kernel_rfl) ?_)
     |(go_at_call 185;refine yv.out.mono ?_;rintro e u ⟨rfl,z⟩;have tR:=zH z;clear z))
    go_ret;rw[o.out,x.out];exact⟨rfl,tE.out.trans (tR.out.mono (by omega))⟩
   have AW:(i.op==15)=tj:=by rw[cN];exact G
   by_cases tS:i.op=16
   ·have o:cg (R=bN (isVar g.c.ins.length i.tI) 15):=by unfold cg;rw[A.out];unfold dN;rw[bw G,cH tS]
    rw[tS] at z0;clear A
    go_wp2_with (first
     |(refine cf rfl 184 _ rfl N rfl 184 (jg m g) (0,0) _ (E.out.1) cG rfl (by kernel_rfl) ?_)
     |(go_at_call 186;refine(gG m g i.tI f).mono ?_;rintro e u ⟨rfl,z⟩;have tR:=zH z;clear z)
     |(go_at_call 99;refine(aB _ _ _).mono ?_;rintro e w8 ⟨rfl,rfl⟩))
    go_ret;rw[o.out,x.out];exact⟨rfl,tE.out.trans (tR.out.mono (by omega))⟩
   have A1:(i.op==16)=tj:=by rw[cN];exact tS
   by_cases tU:i.op=17
   ·have o:cg (R=if isVar g.c.ins.length i.tI&&isVar g.c.ins.length i.els then dQ g.vs [i.a] else 15):=by unfold cg;rw[A.out];unfold dN;rw[bw G,bw tS,cH tU]
    have vt:cg (isVar g.vs.length i.a=ti):=tP.out _ (by rw[HL.out];exact oV (by rw[tU];rfl));rw[tU] at z0;obtain⟨t1,yy⟩:=zE (isVar g.c.ins.length i.tI);obtain⟨t2,yW⟩:=zE (isVar g.c.ins.length i.els);rw[yy,yW] at o;clear A;cases t1 with
    |false=>
     go_wp2_with (first
      |(refine cf rfl 184 _ rfl N rfl 184 (jg m g) (0,0) _ (E.out.1) cG rfl (by kernel_rfl) ?_)
      |(go_at_call 186;refine(gG m g _ _).mono ?_;rintro e u ⟨rfl,z⟩;have tR:=zH z;clear z))
     go_ret;rw[o.out,x.out];exact⟨rfl,tE.out.trans (tR.out.mono (by omega))⟩
    |true=>
     have xF:cg (∀(W:World)(v:aw),jd W N m g i->aE N w W->fj am 186 #[tv (jg m g),Z U v] W λe w'=>e= tB (tt (isVar g.c.ins.length v))/\jd w' N m g i/\aE N w w'):=λW v K hB=>(gG m g v W).mono (by
      rintro e w' ⟨rfl,hb⟩;exact⟨rfl,K.next hb,hB.trans (hb.mono (by have:=K.lt;omega))⟩)
     have tD:=up;have tG:=tE;cases t2 with
     |false=>
      go_wp2_with (first
       |(refine cf rfl 184 _ rfl N rfl 184 (jg m g) (0,0) _ ((tD.out _ (aq _ _)).1) cG rfl (by kernel_rfl) ?_)
       |(go_at_call 186;refine(xF.out _ _ tD.out tG.out).mono ?_;clear tD tG;rintro e u ⟨rfl,y,uv⟩;have zc:=y.lt;obtain⟨y0,y1,y2,y3,y4,y5,y6,y7,y8,y9⟩:=jk.of (y u (aq _ _)).1;have xt:u.cell? ⟨N+1,10,th⟩=tf (Z U i.els):=bt _ _ _ _ _ _ (y u (aq _ _)).2;have tD:=zH y;have tG:=zH uv;clear y uv))
      go_ret;rw[o.out,x.out];exact⟨rfl,tG.out⟩
     |true=>
      have zd:cg (∀(W:World),jd W N m g i->aE N w W->fj am 187 #[tv (jg m g),tn (tf ⟨W.heap.size,0,th⟩) 1 1] (W.alloc (tA #[Z U i.a] 3)) λe w'=>e= tB (Z U (dQ g.vs [i.a]))/\aE N w w'):=by
       intro W K hB;have xT:aE N w (W.alloc (tA #[Z U i.a] 3)):=hB.alloc (by have:=K.lt;omega) _;have hj:=tM.out.j.below (by rw[x.out];exact xT);refine(cB m g (tf ⟨W.heap.size,0,th⟩) [i.a] 1 (W.alloc (tA #[Z U i.a] 3)) hj.vars hj.nv hj.vl (by unfold du;simp) za (by simp;exact vt.out)).mono ?_;rintro e w' ⟨rfl,hb⟩;exact⟨rfl,xT.trans (hb.mono (by have:=K.lt;simp;omega))⟩
      go_wp2_with (first
       |(refine cf rfl 184 _ rfl N rfl 184 (jg m g) (0,0) _ ((tD.out _ (aq _ _)).1) cG rfl (by kernel_rfl) ?_)
       |(go_at_call 186;refine(xF.out _ _ tD.out tG.out).mono ?_;clear tD tG;rintro e u ⟨rfl,y,uv⟩;have zc:=y.lt;obtain⟨y0,y1,y2,y3,y4,y5,y6,y7,y8,y9⟩:=jk.of (y u (aq _ _)).1;have xt:u.cell? ⟨N+1,10,th⟩=tf (Z U i.els):=bt _ _ _ _ _ _ (y u (aq _ _)).2;have z2:u.cell? ⟨N+1,2,th⟩=tf (Z U i.a):=bt _ _ _ _ _ _ (y u (aq _ _)).2;have tD:=zH y;have tG:=zH uv;clear y uv)
       |(go_at_call 187;refine(zd.out _ tD.out tG.out).mono ?_;rintro e w9 ⟨rfl,ya⟩;have zj:=zH ya;clear ya))
      go_ret;rw[o.out,x.out];exact⟨rfl,zj.out⟩
   have A2:(i.op==17)=tj:=by rw[cN];exact tU
   by_cases tW:i.op=18
   ·have o:cg (R=bN (ax g.vs i.a==g.ret) 7):=by unfold cg;rw[A.out];unfold dN;rw[bw G,bw tS,bw tU,cH tW]
    have vt:cg (isVar g.vs.length i.a=ti):=tP.out _ (by rw[HL.out];exact oV (by rw[tW];rfl));rw[tW] at z0;obtain⟨⟨ba,sa⟩,vu⟩:∃t,ax g.vs i.a=t:=⟨_,rfl⟩
    obtain⟨d,vx⟩:=zE (((ba,sa):Ty)==(g.c.rp,g.c.rto));have A3:∀w,(gt 10000 32 (tv #[tt ba,tm sa]) (tv #[tt g.c.rp,tm g.c.rto])).run am w= .ok d w:=λw=>by rw[dB,vx]
    have zp:cg (R=bN d 7):=by unfold cg;rw[o.out,vu,<-vx];rfl
    have zr:cg (∀p:BW f,zP 188 #[tv #[tn m.sA m.ss.length m.sC,tn m.fA m.fs.length m.fC,tm g.c.nm,Z U g.c.par,tn g.c.varsA g.c.nvars g.c.varsC,tt g.c.rp,tm g.c.rto,Z U g.c.rcl,tn g.c.fromA g.c.nfrom g.c.fromC,tn g.c.insA g.c.ins.length g.c.insC],Z U i.a] p.w (tv #[tt ba,tm sa])):=λp=>by
     have:=gF m g i.a p.w (ur.out.below p.h).vars ur.out.nv ur.out.vl vt.out;rw[vu] at this;exact this
    have J:cg (∀p:BW f,jk p.w N m g):=λp=>jk.of (up.out p.w p.h).1;have k0:∀p:BW f,p.w.cell? ⟨N,0,th⟩=tf (tn m.sA m.ss.length m.sC):=λp=>(J.out p).1;have k1:∀p:BW f,p.w.cell? ⟨N,1,th⟩=tf (tn m.fA m.fs.length m.fC):=λp=>(J.out p).2.1;have k2:∀p:BW f,p.w.cell? ⟨N,2,th⟩=tf (tm g.c.nm):=λp=>(J.out p).2.2.1;have k3:∀p:BW f,p.w.cell? ⟨N,3,th⟩=tf (Z U g.c.par):=λp=>(J.out p).2.2.2.1;have k4:∀p:BW f,p.w.cell? ⟨N,4,th⟩=tf (tn g.c.varsA g.c.nvars g.c.varsC):=λp=>(J.out p).2.2.2.2.1;have k5:∀p:BW f,p.w.cell? ⟨N,5,th⟩=tf (tt g.c.rp):=λp=>(J.out p).2.2.2.2.2.1;have k6:∀p:BW f,p.w.cell? ⟨N,6,th⟩=tf (tm g.c.rto):=λp=>(J.out p).2.2.2.2.2.2.1;have k7:∀p:BW f,p.w.cell? ⟨N,7,th⟩=tf (Z U g.c.rcl):=λp=>(J.out p).2.2.2.2.2.2.2.1;have k8:∀p:BW f,p.w.cell? ⟨N,8,th⟩=tf (tn g.c.fromA g.c.nfrom g.c.fromC):=λp=>(J.out p).2.2.2.2.2.2.2.2.1;have k9:∀p:BW f,p.w.cell? ⟨N,9,th⟩=tf (tn g.c.insA g.c.ins.length g.c.insC):=λp=>(J.out p).2.2.2.2.2.2.2.2.2;have A4:∀p:BW f,p.w.cell? ⟨N+1,2,th⟩=tf (Z U i.a):=λp=>by rw[bt _ _ _ _ _ _ (up.out p.w p.h).2];rfl
    clear A vu vx o;go_wp2;refine zQ ?_
    repeat (go_big_quiet_step (first
     |(go_at_call 188;exact bg (zr.out _))
     |(go_at_call 99;exact jr (aB _ _ _))))
    refine dr ?_;rintro _ ⟨p,rfl⟩;go_wp2;go_ret;rw[zp.out,x.out];exact⟨rfl,tE.out.trans (p.h.mono (by omega))⟩
   have A5:(i.op==18)=tj:=by rw[cN];exact tW
   have o:cg (R=au m g.vs i):=by unfold cg;rw[A.out];unfold dN;rw[bw G,bw tS,bw tU,bw tW]
   have zs:cg (zP 189 #[tv (jg m g),tv i.cells] f (Z U (au m g.vs i))):=
    ql m g i f (by have:=At.out;omega) ⟨ur.out,λh=>tP.out _ (by rw[HL.out];exact Cm h),λh=>tP.out _ (by rw[HL.out];exact oV h),λh=>tP.out _ (by rw[HL.out];exact Eo h),tM.out.kn⟩
   clear A G tS tU tW
   go_wp2_with (first
    |(refine cf rfl 184 _ rfl N rfl 184 (jg m g) (0,0) _ (E.out.1) cG rfl (by kernel_rfl) ?_)
    |(refine cf rfl 42 _ rfl (N+1) rfl 42 i.cells (0,0) _ (E.out.2) cA rfl (by kernel_rfl) ?_)
    |(go_at_call 189;refine zs.out.mono ?_;rintro e u ⟨rfl,z⟩;have tR:=zH z;clear z))
   go_ret;rw[o.out,x.out];exact⟨rfl,tE.out.trans (tR.out.mono (by omega))⟩
theorem jP {α:Type}{f:α->aw}:∀{l:bp α}{j:bj}{x:α},(∀y∈l.take j,f y=0)->l[j]?=tf x->f x≠0->aQ f l=f x
 |[],j,x,_,h,_=>by simp at h
 |y::r,0,x,_,h,d=>by
  simp at h;subst h;unfold aQ;rw[bw d]
 |y::r,j+1,x,e,h,d=>by
  unfold aQ;rw[cH (e y (by simp))];exact jP (j:=j) (λz g=>e z (by simp[g])) (by simpa using h) d
theorem gV {α:Type}{f:α->aw}:∀{l:bp α},(∀y∈l,f y=0)->aQ f l=0
 |[],_=>rfl
 |y::r,h=>by
  unfold aQ;rw[cH (h y (by simp))];exact gV λz d=>h z (by simp[d])
theorem uB {i:Ins}(h:i.ok):(i.cells.all λx=>x.oneCell')=ti:=by
 obtain⟨⟨ao,cap,d⟩,f,n2,g,e⟩:=h;rw[<-j9];simp[Ins.cells,cn,d,e]
structure Gh (w:World)(m:Mo)(g:Fn):Prop where
 mo:m.inn w
 fn:g.inn w
 al:∀i∈g.c.ins,i.args.length<=40
 kn:∀v,isVar g.vs.length v=ti->m.known (ax g.vs v)=ti
theorem Bh (m:Mo)(g:Fn)(w:World)(h:Gh w m g):
  zP 97 #[tv (jg m g)] w (Z U (codeF m g)):=by
 have vc:cg (∀i∈g.c.ins,∀W,aE w.heap.size w W->zP 136 #[tv (jg m g),tv i.cells] W (Z U (aF m g i))):=λi hi W hW=>
  ze m g i W ⟨(Bf h.mo h.fn).below hW,(h.fn.code.args i hi).below hW,h.al i hi,h.kn⟩
 have ud:=zH h.fn.code.row;have vd:cg (∀i∈g.c.ins,i.ok):=λi hi=>(h.fn.code.args i hi).1;have ue:=h.fn.nvars;have vf:=(Bf h.mo h.fn).vl;unfold du at vf;obtain⟨R,hR⟩:=zE (codeF m g);have o:cg (R=if 300<g.vs.length\/g.c.ins.length<1\/3000<g.c.ins.length then 2
  else if g.c.par<0\/(g.vs.length:aw)<g.c.par then 15
  else if aQ (aF m g) g.c.ins≠0 then aQ (aF m g) g.c.ins
  else bN (match g.c.ins.getLast? with
   |some i=>decide (16<=i.op)
   |none=>tj) 15):=hR.symm
 rw[hR];clear h hR;obtain⟨N,K⟩:=zE w.heap.size;obtain⟨W1,tM⟩:=zE (w.alloc (tA (jg m g) 184));have up:=ik tM K;have vh:W1.heap.size=N+1:=by rw[<-tM];simp[K]
 have A:W1.heap[N]?=tf (tA (jg m g) 184 (0,0)):=by rw[<-tM,<-K];exact alloc_at _ _
 have q3:=zR A 3 (Z U g.c.par);have q4:W1.cell? ⟨N,4,th⟩=tf (tn g.c.varsA g.vs.length g.c.varsC):=by rw[bt _ _ _ _ _ _ A,<-ue];rfl
 have q9:=zR A 9 (tn g.c.insA g.c.ins.length g.c.insC);have v:=zH up;have t:=zH K;have vm:=zH A;have vt:=zH vh;have vp:N<W1.heap.size:=by omega
 clear up A ue
 by_cases c1:300<g.vs.length
 ·have d:cg (R=2):=by unfold cg;rw[o.out,cH (.inl c1)]
  clear o;go_enter n6,mN;go_wp2;go_ret;rw[d.out]
  try rw[t.out]
  exact⟨rfl,v.out⟩
 by_cases c2:g.c.ins.length<1
 ·have d:cg (R=2):=by unfold cg;rw[o.out,cH (.inr (.inl c2))]
  clear o;go_enter n6,mN;go_wp2;go_ret;rw[d.out]
  try rw[t.out]
  exact⟨rfl,v.out⟩
 by_cases c3:3000<g.c.ins.length
 ·have d:cg (R=2):=by unfold cg;rw[o.out,cH (.inr (.inr c3))]
  clear o;go_enter n6,mN;go_wp2;go_ret;rw[d.out]
  try rw[t.out]
  exact⟨rfl,v.out⟩
 by_cases c4:g.c.par<0
 ·have d:cg (R=15):=by unfold cg;rw[o.out,bw (by omega),cH (.inl c4)]
  clear o;go_enter n6,mN;go_wp2;go_ret;rw[d.out]
  try rw[t.out]
  exact⟨rfl,v.out⟩
 by_cases c5:(g.vs.length:aw)<g.c.par
 ·have d:cg (R=15):=by unfold cg;rw[o.out,bw (by omega),cH (.inr c5)]
  clear o;go_enter n6,mN;go_wp2;go_ret;rw[d.out]
  try rw[t.out]
  exact⟨rfl,v.out⟩
 have tP:cg (R=if aQ (aF m g) g.c.ins≠0 then aQ (aF m g) g.c.ins
  else bN (match g.c.ins.getLast? with
   |some i=>decide (16<=i.op)
   |none=>tj) 15):=by unfold cg;rw[o.out,bw (by omega),bw (by omega)]
 clear o;go_enter n6,mN
 go_upto_region 8 with(refine cf rfl 184 _ rfl N rfl 184 (jg m g) (0,0) _ vm.out cG rfl (by kernel_rfl) ?_)
 go_loopw [47] (λc wr=>∃j:bj,j<=g.c.ins.length/\c= Z U (j:aw)/\(∀x∈g.c.ins.take j,aF m g x=0)/\aE W1.heap.size W1 wr) (λc _=>g.c.ins.length-(dp c).toNat)
 case atStart=>exact⟨0,cM _,rfl,by simp,aq _ _⟩
 case round=>
  obtain⟨j,hj,rfl,E,hb⟩:=hrel;have HB:=zH hb;have HZ:=zH E;have tD:cg (aE N w wr):=v.out.trans (hb.mono (by omega))
  by_cases tR:j<g.c.ins.length
  ·obtain⟨i,hi⟩:∃i,g.c.ins[j]?=tf i:=⟨_,ap tR⟩
   have tS:=ci hi;obtain⟨q,y,hA,ur,G⟩:=ud.out (by intro e;rw[e] at tR;simp at tR);have tU:q<N:=by omega
   have uv:cg (∀k u,i.cells.toList[k]?=tf u->wr.cell? ((⟨q,y+j*13,th⟩:fg).add k)=tf u):=λk u hu=>by
    rw[cU,tD.out.cell (p:=⟨q,_,th⟩) tU];exact G j i hi k u hu
   have hst:∀(c:dl cw),c.size=13->(dd ⟨wr.heap.size,0,th⟩ i.cells.toList 0).run am (wr.alloc (tA c 42))= .ok () (wr.alloc (tA i.cells 42)):=λc hc=>
    cr (P:=am) wr 42 c i.cells (by show _=tf 13;kernel_rfl) hc (uB (vd.out i tS))
   have ux:cg ((wr.alloc (tA i.cells 42)).heap[wr.heap.size]?=tf (tA i.cells 42 (0,0))):=alloc_at _ _;have vq:cg (aE N w (wr.alloc (tA i.cells 42))):=tD.out.alloc (by have:=HB.out.size;omega) _;have tE:cg (aE W1.heap.size W1 (wr.alloc (tA i.cells 42))):=HB.out.alloc HB.out.size _;have tW:cg (zP 136 #[tv (jg m g),tv i.cells] (wr.alloc (tA i.cells 42)) (Z U (aF m g i))):=vc.out i tS _ (by rw[t.out];exact vq.out);have vu:(j:aw)<(g.c.ins.length:aw):=by omega
   have HI:=zH hi;obtain⟨z,ua⟩:=zE (aF m g i);rw[ua] at tW;have ub:=zH ua;rw[hA];clear E hb hi tS ur G ua
   by_cases tG:z=0
   ·subst tG
    go_wp2_with (first
     |(refine ay rfl 42 _ rfl ⟨q,y+j*13,th⟩ rfl i.cells _ uv.out cA rfl (by kernel_rfl) ?_)
     |(refine cf rfl 42 _ rfl wr.heap.size rfl 42 i.cells (0,0) _ ux.out cA rfl (by kernel_rfl) ?_)
     |(go_at_call 136;refine tW.out.mono ?_;rintro e w3 ⟨rfl,J⟩;have uc:cg (aE W1.heap.size W1 w3):=tE.out.trans (J.mono tE.out.size);clear J))
    go_roundw
    case rel=>exact⟨j+1,by omega,by go_num,dw (p:=λx=>aF m g x=0) HZ.out HI.out ub.out,uc.out⟩
    case measure=>simp[dp];omega
   ·have d:cg (R=z):=by
     unfold cg;have e:=jP (f:=aF m g) HZ.out HI.out (by rw[ub.out];exact tG);rw[tP.out,e,ub.out,cH tG]
    have vx:(z==0)=tj:=by rw[cN];exact tG
    go_wp2_with (first
     |(refine ay rfl 42 _ rfl ⟨q,y+j*13,th⟩ rfl i.cells _ uv.out cA rfl (by kernel_rfl) ?_)
     |(refine cf rfl 42 _ rfl wr.heap.size rfl 42 i.cells (0,0) _ ux.out cA rfl (by kernel_rfl) ?_)
     |(go_at_call 136;refine tW.out.mono ?_;rintro e w3 ⟨rfl,J⟩;have uc:cg (aE W1.heap.size W1 w3):=tE.out.trans (J.mono tE.out.size);clear J))
    go_ret;rw[d.out]
    try rw[t.out]
    exact⟨rfl,v.out.trans (uc.out.mono (by omega))⟩
  ·have vr:j=g.c.ins.length:=by omega
   subst vr;rw[cL] at E;obtain⟨i,hi⟩:∃i,g.c.ins[g.c.ins.length-1]?=tf i:=⟨_,ap (by omega)⟩
   have d:cg (R=bN (decide (16<=i.op)) 15):=by
    unfold cg;rw[tP.out,gV E,bw (by simp),List.getLast?_eq_getElem?,hi]
   obtain⟨q,y,hA,ur,G⟩:=ud.out (by intro e;rw[e] at hi;simp at hi);have tU:q<N:=by omega
   obtain⟨L,hL⟩:∃L,g.c.ins.length=L+1:=⟨g.c.ins.length-1,by omega⟩
   have hd:wr.cell? ⟨q,y+L*13,th⟩=tf (Z U i.op):=by
    rw[tD.out.cell (p:=⟨q,_,th⟩) tU];rw[hL,Nat.add_sub_cancel] at hi;exact G L i hi 0 _ rfl
   have vy:wr.cell? ⟨N,9,th⟩=tf (tn (tf ⟨q,y,th⟩) (L+1) g.c.insC):=by rw[hb.cell (p:=⟨N,9,th⟩) vp,<-hA,<-hL];exact q9
   have we:q<wr.heap.size:=by have:=hb.size;omega
   have wg:N<wr.heap.size:=by have:=hb.size;omega
   have wj:((L+1:bj):aw)-1=(L:aw):=by omega
   have wk:L<=3000:=by omega
   clear E hb hi tP G q9;rw[hL]
   go_wp2_with (go_at_call 99;refine(aB _ _ _).mono ?_;rintro e w8 ⟨rfl,rfl⟩)
   go_ret;rw[d.out]
   try rw[t.out]
   exact⟨rfl,tD.out⟩
section
open Go.RowKit Go.Maps
theorem qm:Keyed am 9:=string_keyed gS
theorem CX (w:World):(zeroValue 4).run am w= .ok (tt tj) w:=by kernel_rfl
theorem qJ {P:km}{e:fX}(d:P.underlying e=tf .bool){v:cw}{z:DataW Unit×bp m5}(h:ra P e v=tf z):∃x,v= .bool x/\z=(.lit (.bool x),[]):=by
 unfold ra at h;rw[d] at h;cases v<;>simp at h;exact⟨_,rfl,h.symm⟩
def qK (w:World)(B n:bj)(S:bp bl):Prop:=∃D:DataW Unit,w.ownsMap am 9 (ra am 4) B n D/\IsMap D/\
 ∀x:bl,D.atKey (.string x.data.toList) (.lit (.bool tj))= .lit (.bool (decide (x∈S)))
theorem qK.made (w:World):qK (w.alloc (.map #[] 0)) w.heap.size 0 []:=
 ⟨.map [],World.ownsMap_made _ _ _ _,isMap_empty,λx=>by simp[DataW.atKey]⟩
theorem qK.lt {w:World}{B n:bj}{S:bp bl}(h:qK w B n S):B<w.heap.size:=by
 obtain⟨D,d,e⟩:=h;exact d.lt
theorem qK.look {w:World}{B n:bj}{S:bp bl}(h:qK w B n S){x:bl}(e:x.size<=du):
  (mx 283 (.map (tf B)) (.string x) tj).run am w= .ok (.bool (decide (x∈S))) w:=by
 obtain⟨D,f,q,g⟩:=h;obtain⟨v,t,j,o⟩:=f.lookup qm underlying283 (CX w) (plainElem_bool mu tj) (sB gS e);obtain⟨y,rfl,d⟩:=qJ mu o;rw[g x] at d;simp only[pp,DataW.lit.injEq,Lit.bool.injEq] at d;rw[j,<-d.1]
theorem qK.add {w:World}{B n:bj}{S:bp bl}(h:qK w B n S){x:bl}(f:x.size<=du)(g:n<du):
  ∃w',(Instr.mapUpdate 283 (.map (tf B)) (.string x) (.bool ti)).run am w= .ok () w'/\qK w' B (n+1) (x::S)/\Ext (·=B) w w':=by
 obtain⟨D,j,d,o⟩:=h;obtain⟨w',q,r1,r2⟩:=j.update qm underlying283 g (sB gS f) (plainElem_bool mu ti);refine⟨w',q,⟨_,r1,d.put _ _,λy=> ?_⟩,Ext.of_grown r2 (λk t=> .inl (by simpa using t.symm))⟩
 by_cases e:y=x
 ·subst e
  rw[atKey_put_same d (by simp[WideAt.IsKeyLit])];simp
 ·rw[atKey_put_other (F9 e),o y];simp[e]
end
section
open Go.RowKit Go.Maps
theorem zf:(am.info? 9).map (λi=>(i.zero,i.size,i.bytes))=tf (tf (tm ⟨#[]⟩),1,16):=by kernel_rfl
def fJ (w:World)(base:bj)(v:cw)(xs:bp bl):Prop:=w.ownsRow base 9 1 v xs.length (xs.map eM)
theorem fJ.nil (w:World)(base:bj):fJ w base (tn th 0 0) []:=World.ownsRow_nil _ _ _ _
theorem fJ.isSlice {w:World}{base:bj}{v:cw}{xs:bp bl}(h:fJ w base v xs):∃ao cap,v= tn ao xs.length cap:=by
 rcases h.2 with⟨d,e⟩|⟨g,cap,f,d,_⟩
 ·exact⟨th,0,by rw[e];exact d⟩
 ·exact⟨_,_,d⟩
theorem fJ.at_ {w:World}{base n cap:bj}{ao:cC fg}{xs:bp bl}(h:fJ w base (tn ao n cap) xs):aR w ao xs:=by
 intro t;rcases h.2 with⟨d,f⟩|⟨g,x,j,d,f,o,y,A,E,u⟩
 ·exact fz (cV f) t
 ·have v:ao=tf ⟨g,0,th⟩:=by simp only[fy] at d;exact d.1
  refine⟨g,0,v,(br.1 o).1,λk z q=> ?_⟩;rw[cI,bt w g k j _ _ o];have G:k<xs.length:=(bo.1 q).1;have e:(j.toList.take (xs.length*1))[k]?=tf (tm z):=by rw[u];simp[q]
  rw[lO,cH (by omega)] at e;simpa using e
theorem fJ.below {w w':World}{base:bj}{v:cw}{xs:bp bl}(h:fJ w base v xs)(hb:aE w.heap.size w w'):fJ w' base v xs:=ownsRow_below h hb
theorem gm {w:World}{ops:dl kj}{rest:bp kj}{o:kj}{a:Act}{Q:Exit->Act->World->Prop}(t:o.guard=th)(s x:Operand)
  (y:o.op= .call {callee:= .builtin .append,args:=#[s,x],argTypes:=#[223,223]})(base:bj)(v:cw)(xs:bp bl)(A:a.eval s=v)(E:fJ w base v xs)
  (e:fg)(z:bl)(c:bj)(G:a.eval x= tn (tf e) 1 c)(J:w.cell? e=tf (tm z))(tG:xs.length<=90000)(K:base<=w.heap.size)
  (h:∀d w',fJ w' base d (xs++[z])->w.grownBy w' v.ownBlock->pi am ops Q rest (a.put o.dst d) w'):pi am ops Q (o::rest) a w:=by
 obtain⟨R,hi,W,tD,tE⟩:=m6 zf;have hh:∀d w',w'.ownsRow base 9 1 d (xs.length+1) (xs.map eM++[tm z])->w.grownBy w' v.ownBlock->pi am ops Q rest (a.put o.dst d) w':=λd w' f g=>h d w' (by unfold fJ;simpa using f) g;refine wpList_append_own _ t s x 223 y base 9 R (tm ⟨#[]⟩) 1 16 qe hi W tD tE rfl (by decide) v xs.length _ A E e 1 c [tm z] G (by simp) (λj u q=> ?_) (by simp;rfl) (by unfold du;omega) (by omega) K (λd w' f g _=>hh d w' f g);have:j<1:=(bo.1 q).1;obtain rfl:j=0:=by omega
 simp at q;subst q;obtain⟨b,o,s⟩:=e;simpa[Addr.add] using J
theorem Bi {xs:bp bl}{j:bj}{y:bl}(h:(xs.take j).Nodup)(d:xs[j]?=tf y)(e:y∉xs.take j):(xs.take (j+1)).Nodup:=by
 rw[aS d,pk];exact⟨h,by simp,by intro a f b hb;simp at hb;subst hb;rintro rfl;exact e f⟩
theorem CY {xs:bp bl}{j:bj}{y:bl}(e:xs[j]?=tf y)(f:y∈xs.take j):¬xs.Nodup:=by
 intro h;have d:(xs.take (j+1)).Nodup:=h.sublist (List.take_sublist _ _);rw[aS e,pk] at d;exact d.2.2 y f y (by simp) rfl
theorem jF (w:World)(c:bj)(ao:cC fg)(xs:bp bl)(hn:xs.length<=90000)(tE:∀x∈xs,x.size<=du)(h:aR w ao xs):
  zP 133 #[tn ao xs.length c] w (tt (decide (¬xs.Nodup))):=by
 have ux:=@run_makeMap am;have H:=zH h;have tS:=zH tE;obtain⟨N,q⟩:=zE w.heap.size;obtain⟨W1,tG⟩:=zE (w.alloc (.map #[] 0));have tM:=ik tG q;have tU:cg (qK W1 N 0 []):=by rw[<-tG,<-q];exact qK.made w
 have tW:=zH tM;have t:=zH q;obtain⟨R,u⟩:=zE (decide (¬xs.Nodup));rw[u];have HR:=zH u;clear h tE tM u;go_enter func133,ntmps133
 go_wp2_with fail
 go_loopw [9] (λc wr=>∃(j:bj) (S:bp bl),j<=xs.length/\c= Z U (j:aw)/\qK wr N j S/\(∀z,z∈S↔z∈xs.take j)/\(xs.take j).Nodup/\aE N w wr) (λc _=>xs.length-(dp c).toNat)
 case atStart=>exact⟨0,[],cM _,rfl,tU.out,by simp,by simp,tW.out⟩
 case round=>
  obtain⟨j,S,hj,rfl,f,v,g,hb⟩:=hrel;have A:=zH hb;have ua:=zH g;have E:=zH v
  by_cases G:j<xs.length
  ·obtain⟨y,o⟩:∃y,xs[j]?=tf y:=⟨_,ap G⟩
   obtain⟨g1,ub,rfl,vc,q1⟩:=(H.out.below (by rw[t.out];exact hb)) (by intro e;rw[e] at G;simp at G)
   have d1:wr.cell? ⟨g1,ub+j,th⟩=tf (tm y):=q1 j y o;have J:=tS.out y (ci o);have vd:(j:aw)<(xs.length:aw):=by omega
   have uc:=f.look J;obtain⟨w2,vf,tP,tR⟩:=f.add J (show j<du by unfold du;omega);obtain⟨d,K⟩:=zE (decide (y∈S));rw[K] at uc;have HD:=zH K;have W:=zH o;have ud:=zH tP;have ue:=zH tR;have vh:=f.lt;clear f v g hb o q1 J K tP tR;cases d with
   |true=>
    have tD:cg (R=ti):=by
     unfold cg;rw[<-HR.out];exact cR (CY W.out ((E.out y).1 (mw HD.out)))
    go_wp2;go_ret;rw[tD.out]
    try rw[t.out]
    exact⟨rfl,A.out⟩
   |false=>
    go_wp2;go_roundw
    case rel=>
     have up:y∉xs.take j:=λh=>qu HD.out ((E.out y).2 h);refine⟨j+1,y::S,by omega,by go_num,ud.out,λz=> ?_,Bi ua.out W.out up, ?_⟩
     ·rw[aS W.out,fW,dg,E.out z,cP,or_comm]
     ·have ur:Ext (N<=·) wr w2:=ue.out.mono (λk hk=>by show N<=k;omega)
      exact A.out.trans (ur.below (by omega) (λk hk=>hk))
    case measure=>simp[dp];omega
  ·have uv:j=xs.length:=by omega
   subst uv;have tD:cg (R=tj):=by
    unfold cg;rw[cL] at g;rw[<-HR.out];exact cm (by simpa using g)
   clear f v g hb;go_wp2;go_ret;rw[tD.out]
   try rw[t.out]
   exact⟨rfl,A.out⟩
end
end Go.Proofs.YtjomgckjhcfbgaaGreat
