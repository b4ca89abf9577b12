/- Walks. -/
import Derived.Deep.WholeRow
import Derived.Maps.OwnOps
import Derived.Maps.Views
import Derived.Laws.OwnMore
import Derived.Test.YtjomgckjhcfbgaaGreatU7
set_option maxRecDepth 100000
set_option maxHeartbeats 64000000
set_option linter.all false
namespace Go.Proofs.YtjomgckjhcfbgaaGreat
open Go.RowKit
open Go.Proofs.Tryz renaming prog→am,underlying42→cD,underlying184→cM,ntmps189→fy,func189→fR,underlying9→iv,underlying4→nj,ntmps97→n4,func97→oY,underlying223→rg
open _root_.List renaming getElem?_eq_getElem→ap,getElem?_eq_some_iff→bl,setIfInBounds_toArray→bp,mem_of_getElem?→cd,set_cons_zero→cn,set_cons_succ→co,getElem_cons_zero→cw,getElem_cons_succ→cy,getElem_toArray→cC,take_length→cR,mem_singleton→cU,mem_append→cX,eq_nil_of_length_eq_zero→dr,mem_cons→gh,all_eq_true→gA,getElem?_eq_none→mw,getElem?_take→mz,nodup_append→pn
open Go.RowKit.Below renaming refl→aq,mono→qe
open _root_ renaming Int→aw,Nat→bh,List→bj,ByteArray→bm,if_neg→bx,decide_eq_false→cv,Option→cG,if_pos→cI,beq_eq_false_iff_ne→cT,decide_eq_true→cV,Array→eA,absurd→fL,Bool→mm,of_decide_eq_true→m7
open Go.RowKit renaming Below→aE,Hid→cj,intOf→de
open _root_.Array renaming getElem?_eq_some_iff→br,all_toList→ly
open Go renaming cell_of_row→bw,wpList_load_row→cm,run_storeCells_new→cx,Value→cA,wpQuiet_nil→dj,storeCells→dt,maxLen→eC,Addr→fS,beq_toListBytes→fY,Calls→ge,TypeId→gt,info_parts→kB,wpAnyH_ready→lk,Program→lr,Oper→mS,MemPlace→n9,yielded→pk,wpList→pZ,plainElem→rI,Operand→tE
open _root_.Nat renaming le_refl→cg,zero_add→cL,zero_le→cN
open Go.Value renaming oneCell'→ct,int→eS,string→fz,string→tS,slice→tU,pointer→tW,bool→ua,agg→ub,int→Z
open Go.Addr renaming add_lit→cY
open Go.Act renaming put→eh
open _root_.Int renaming toNat_natCast→eW
open Go.Region renaming ready→fg,noSelect→gw,wanted→gx,Mode→i8,free→n3
open Go.Value.slice renaming injEq→fm
open Go.AllReadyH renaming cons→gv,nil→ix
open Go.Op renaming equalIn→gE
open Go.Instr renaming lookup→nr
open Go.ByteArray renaming toList_eq→py
open _root_.Prod.mk renaming injEq→qs
open Go.WideMaps renaming keyOf_string_mk→tm
open _root_.Option renaming some→tG,none→tM
open _root_.Bool renaming true→tP,false→tR
open Go.Obj renaming cells→uc
open Go.Ending renaming returned→ud
open Go.IntKind renaming i64→U
open Tryz
theorem GX (m:Mo)(g:Fn)(i:Ins)(w:World)(q:i.op=9)(h:dX w m g i):
  zP 189 #[ub (jg m g),ub i.cells] w (Z U (ax m g.vs i)):=by
 have u:cj (ax m g.vs i=bU ((ay g.vs i.a).1&&ay g.vs i.a==ay g.vs i.d) 7):=by
  unfold cj ax;rw[q];rfl
 obtain⟨R,hR⟩:=zE (ax m g.vs i);rw[hR] at u⊢;clear hR;have ur:=zH h;obtain⟨N,W1,hN,uv,ux,ue,⟨i0,i1,i2,i3,i4,i6⟩,x,vc,y,z,vd,HT,HD,HA,HB⟩:=cB q h;clear h q;obtain⟨⟨f,A⟩,j⟩:∃t,ay g.vs i.a=t:=⟨_,rfl⟩
 obtain⟨⟨E,G⟩,o⟩:∃t,ay g.vs i.d=t:=⟨_,rfl⟩
 have vf:(ay g.vs i.a).1=f:=by rw[j]
 have vh:(ay g.vs i.a).2=A:=by rw[j]
 have vm:(ay g.vs i.d).1=E:=by rw[o]
 have vp:(ay g.vs i.d).2=G:=by rw[o]
 have HV:cj (∀v,v=i.a\/v=i.d->isVar g.vs.length v=tP):=λv h=>by rcases h with rfl|rfl;exact HA.out rfl;exact HD.out rfl
 have J:cj (∀(p:BW W1)(v:aw),isVar g.vs.length v=tP->zP 188 #[ub (jg m g),Z U v] p.w (ub #[ua (ay g.vs v).1,tS (ay g.vs v).2])):=λp v hv=>HT.out p.w v (by rw[x.out];exact y.out.trans (p.h.mono (by omega))) hv;unfold jg at J;obtain⟨d,K⟩:=zE (((f,A):Ty)==(E,G));have vq:∀w,(gE 10000 32 (ub #[ua f,tS A]) (ub #[ua E,tS G])).run am w= .ok d w:=λw=>by rw[dP,K]
 have up:cj (R=bU (f&&d) 7):=by unfold cj;rw[u.out,j,o,K]
 have vr:=ko;have e:cj (∀p:BW W1,jK p.w N m g):=λp=>jK.of ((p.h.block N (by omega)).trans z.out);have k0:∀p:BW W1,p.w.cell? ⟨N,0,tM⟩=tG (tU m.sA m.ss.length m.sC):=λp=>(e.out p).1;have k1:∀p:BW W1,p.w.cell? ⟨N,1,tM⟩=tG (tU m.fA m.fs.length m.fC):=λp=>(e.out p).2.1;have k2:∀p:BW W1,p.w.cell? ⟨N,2,tM⟩=tG (tS g.c.nm):=λp=>(e.out p).2.2.1;have k3:∀p:BW W1,p.w.cell? ⟨N,3,tM⟩=tG (Z U g.c.par):=λp=>(e.out p).2.2.2.1;have k4:∀p:BW W1,p.w.cell? ⟨N,4,tM⟩=tG (tU g.c.varsA g.c.nvars g.c.varsC):=λp=>(e.out p).2.2.2.2.1;have k5:∀p:BW W1,p.w.cell? ⟨N,5,tM⟩=tG (ua g.c.rp):=λp=>(e.out p).2.2.2.2.2.1;have k6:∀p:BW W1,p.w.cell? ⟨N,6,tM⟩=tG (tS g.c.rto):=λp=>(e.out p).2.2.2.2.2.2.1;have k7:∀p:BW W1,p.w.cell? ⟨N,7,tM⟩=tG (Z U g.c.rcl):=λp=>(e.out p).2.2.2.2.2.2.2.1;have k8:∀p:BW W1,p.w.cell? ⟨N,8,tM⟩=tG (tU g.c.fromA g.c.nfrom g.c.fromC):=λp=>(e.out p).2.2.2.2.2.2.2.2.1;have k9:∀p:BW W1,p.w.cell? ⟨N,9,tM⟩=tG (tU g.c.insA g.c.ins.length g.c.insC):=λp=>(e.out p).2.2.2.2.2.2.2.2.2;have vt:∀p:BW W1,p.w.cell? ⟨N+1,1,tM⟩=tG (Z U i.d):=λp=>by rw[p.h.cell (p:=⟨N+1,1,tM⟩) ue];exact i1
 have vu:∀p:BW W1,p.w.cell? ⟨N+1,2,tM⟩=tG (Z U i.a):=λp=>by rw[p.h.cell (p:=⟨N+1,2,tM⟩) ue];exact i2
 clear u j o K HT HB ur;cases f with
 |false=>
  go_enter fR,fy
  go_wp2_with (refine cm rfl 184 _ rfl N rfl 184 (jg m g) (0,0) _ z.out cM rfl (by kernel_rfl) ?_)
  refine zQ ?_
  repeat (go_big_quiet_step (first
   |(go_at_call 188;exact bE (J.out _ _ (HV.out _ (by first|exact .inl rfl|exact .inr rfl))))
   |(go_at_call 99;exact eO (aD _ _ _))))
  refine dj ?_;rintro _ ⟨p,rfl⟩;go_wp2;go_ret;rw[up.out,x.out];exact⟨rfl,y.out.trans (p.h.mono (by omega))⟩
 |true=>
  go_enter fR,fy
  go_wp2_with (refine cm rfl 184 _ rfl N rfl 184 (jg m g) (0,0) _ z.out cM rfl (by kernel_rfl) ?_)
  refine zQ ?_
  repeat (go_big_quiet_step (first
   |(go_at_call 188;exact bE (J.out _ _ (HV.out _ (by first|exact .inl rfl|exact .inr rfl))))
   |(go_at_call 99;exact eO (aD _ _ _))))
  refine dj ?_;rintro _ ⟨p,rfl⟩;go_wp2;go_ret;rw[up.out,x.out];exact⟨rfl,y.out.trans (p.h.mono (by omega))⟩
theorem FP (m:Mo)(g:Fn)(i:Ins)(w:World)(up:i.op=12)(h:dX w m g i):
  zP 189 #[ub (jg m g),ub i.cells] w (Z U (ax m g.vs i)):=by
 have q:cj (ax m g.vs i=if i.f<0 then 15 else match m.ss[i.f.toNat]? with
  |none=>15
  |some s=>bU (ay g.vs i.d==(tP,s.s.nm)) 7):=by
  unfold cj ax;rw[up];rfl
 obtain⟨R,hR⟩:=zE (ax m g.vs i);rw[hR] at q⊢;clear hR;have J:=zH h;obtain⟨N,W1,hN,vt,vu,vc,⟨i0,i1,i2,i3,i4,i6⟩,K,vx,u,y,vy,HT,HD,HA,HB⟩:=cB up h;clear h up;have vm:W1.cell? ⟨N,0,tM⟩=tG (tU m.sA m.ss.length m.sC):=(jK.of y.out).1
 by_cases z:i.f<0
 ·have A:cj (R=15):=by unfold cj;rw[q.out,cI z]
  clear q HT HD HA HB J;go_enter fR,fy
  go_wp2_with (refine cm rfl 184 _ rfl N rfl 184 (jg m g) (0,0) _ y.out cM rfl (by kernel_rfl) ?_)
  go_ret;rw[A.out];exact⟨rfl,by first|exact u.out|(rw[K.out];exact u.out)⟩
 obtain⟨F,hF⟩:∃F:bh,i.f=(F:aw):=⟨i.f.toNat,by omega⟩
 rw[hF] at i4
 by_cases E:F<m.ss.length
 ·obtain⟨x,hst⟩:∃f,m.ss[F]?=tG f:=⟨_,ap E⟩
  have vd:cj (R=bU (ay g.vs i.d==(tP,x.s.nm)) 7):=by
   unfold cj;rw[q.out,bx z,hF,eW,hst]
  obtain⟨G,vf,ur,vp,vh⟩:=J.out.j.mo.srow (by intro e;rw[e] at E;simp at E);have vq:G<N:=by omega
  have c0:w.cell? ⟨G,vf+F*4,tM⟩=tG (tS x.s.nm):=vh F x hst 0 _ rfl;obtain⟨⟨bd,sd⟩,ue⟩:∃t,ay g.vs i.d=t:=⟨_,rfl⟩
  have we:(ay g.vs i.d).1=bd:=by rw[ue]
  have wg:(ay g.vs i.d).2=sd:=by rw[ue]
  have HV:cj (∀v,v=i.d\/v=i.d->isVar g.vs.length v=tP):=λv h=>by rcases h with rfl|rfl<;>exact HD.out rfl
  have uv:cj (∀(p:BW W1)(v:aw),isVar g.vs.length v=tP->zP 188 #[ub (jg m g),Z U v] p.w (ub #[ua (ay g.vs v).1,tS (ay g.vs v).2])):=λp v hv=>HT.out p.w v (by rw[K.out];exact u.out.trans (p.h.mono (by omega))) hv;unfold jg at uv;obtain⟨d,ux⟩:=zE (((bd,sd):Ty)==(tP,x.s.nm));have wj:∀w,(gE 10000 32 (ub #[ua bd,tS sd]) (ub #[ua tP,tS x.s.nm])).run am w= .ok d w:=λw=>by rw[dP,ux]
  have A:cj (R=bU d 7):=by unfold cj;rw[vd.out,ue,ux]
  have o:cj (∀p:BW W1,jK p.w N m g):=λp=>jK.of ((p.h.block N (by omega)).trans y.out);have k0:∀p:BW W1,p.w.cell? ⟨N,0,tM⟩=tG (tU m.sA m.ss.length m.sC):=λp=>(o.out p).1;have k1:∀p:BW W1,p.w.cell? ⟨N,1,tM⟩=tG (tU m.fA m.fs.length m.fC):=λp=>(o.out p).2.1;have k2:∀p:BW W1,p.w.cell? ⟨N,2,tM⟩=tG (tS g.c.nm):=λp=>(o.out p).2.2.1;have k3:∀p:BW W1,p.w.cell? ⟨N,3,tM⟩=tG (Z U g.c.par):=λp=>(o.out p).2.2.2.1;have k4:∀p:BW W1,p.w.cell? ⟨N,4,tM⟩=tG (tU g.c.varsA g.c.nvars g.c.varsC):=λp=>(o.out p).2.2.2.2.1;have k5:∀p:BW W1,p.w.cell? ⟨N,5,tM⟩=tG (ua g.c.rp):=λp=>(o.out p).2.2.2.2.2.1;have k6:∀p:BW W1,p.w.cell? ⟨N,6,tM⟩=tG (tS g.c.rto):=λp=>(o.out p).2.2.2.2.2.2.1;have k7:∀p:BW W1,p.w.cell? ⟨N,7,tM⟩=tG (Z U g.c.rcl):=λp=>(o.out p).2.2.2.2.2.2.2.1;have k8:∀p:BW W1,p.w.cell? ⟨N,8,tM⟩=tG (tU g.c.fromA g.c.nfrom g.c.fromC):=λp=>(o.out p).2.2.2.2.2.2.2.2.1;have k9:∀p:BW W1,p.w.cell? ⟨N,9,tM⟩=tG (tU g.c.insA g.c.ins.length g.c.insC):=λp=>(o.out p).2.2.2.2.2.2.2.2.2;have wk:∀p:BW W1,p.w.cell? ⟨N+1,1,tM⟩=tG (Z U i.d):=λp=>by rw[p.h.cell (p:=⟨N+1,1,tM⟩) vc];exact i1
  have wl:∀p:BW W1,p.w.cell? ⟨N+1,4,tM⟩=tG (Z U (F:aw)):=λp=>by rw[p.h.cell (p:=⟨N+1,4,tM⟩) vc];exact i4
  have ws:∀p:BW W1,p.w.cell? ⟨G,vf+F*4,tM⟩=tG (tS x.s.nm):=λp=>by
   rw[(u.out.trans (p.h.mono (by omega))).cell (p:=⟨G,_,tM⟩) vq];exact c0
  have vr:(F:aw)<(m.ss.length:aw):=by omega
  have xf:G<W1.heap.size:=by omega
  have xj:∀(s:bm)(w:World),(Instr.build 32 #[(0,ua tP),(1,tS s)]).run am w= .ok (ub #[ua tP,tS s]) w:=λs w=>run_build w 32 _ _ (by kernel_rfl);rw[ur] at vm k0 uv;have xo:=zH ur;clear q vd ux ue HT HB J ur hst E hF z vp vh c0;go_enter fR,fy
  go_wp2_with (refine cm rfl 184 _ rfl N rfl 184 (jg m g) (0,0) _ y.out cM rfl (by kernel_rfl) ?_)
  refine zQ ?_
  repeat (go_big_quiet_step (first
   |(go_at_call 188;exact bE (uv.out _ _ (HV.out _ (by first|exact .inl rfl|exact .inr rfl))))
   |(go_at_call 99;exact eO (aD _ _ _))))
  refine dj ?_;rintro _ ⟨p,rfl⟩;go_wp2;go_ret;rw[A.out,K.out];exact⟨rfl,u.out.trans (p.h.mono (by omega))⟩
 ·have A:cj (R=15):=by unfold cj;rw[q.out,bx z,hF,eW,mw (by omega)]
  have vr:¬((F:aw)<(m.ss.length:aw)):=by omega
  clear q HT HD HA HB J E hF z;go_enter fR,fy
  go_wp2_with (refine cm rfl 184 _ rfl N rfl 184 (jg m g) (0,0) _ y.out cM rfl (by kernel_rfl) ?_)
  go_ret;rw[A.out];exact⟨rfl,by first|exact u.out|(rw[K.out];exact u.out)⟩
theorem Cv {w:World}{B:bh}{xs:bj aw}(d:B=w.heap.size):ak (w.alloc (uc (xs.map (eS .i64)).toArray 3)) (tG ⟨B,0,tM⟩) xs:=by
 subst d;intro _;refine⟨w.heap.size,0,rfl,by simp,λk u e=> ?_⟩;rw[cL,World.cell?_alloc_new];simp[e]
theorem sV {w:World}{B:bh}{xs:bj bm}(d:B=w.heap.size):aW (w.alloc (uc (xs.map fz).toArray 9)) (tG ⟨B,0,tM⟩) xs:=by
 subst d;intro _;refine⟨w.heap.size,0,rfl,by simp,λk u e=> ?_⟩;rw[cL,World.cell?_alloc_new];simp[e]
theorem GY (m:Mo)(g:Fn)(i:Ins)(w:World)(A:i.op=4)(h:dX w m g i):
  zP 189 #[ub (jg m g),ub i.cells] w (Z U (ax m g.vs i)):=by
 have x:cj (ax m g.vs i=eY (eD g.vs [i.d,i.a,i.b]) i.sign gX):=by
  unfold cj ax;rw[A];rfl
 obtain⟨R,hR⟩:=zE (ax m g.vs i);rw[hR] at x⊢;clear hR;have ur:=zH h;obtain⟨N,W1,hN,vd,vf,y,⟨i0,i1,i2,i3,i4,i6⟩,HN,vh,uv,vc,vm,HT,HD,HA,HB⟩:=cB A h;clear h A;obtain⟨E,G⟩:=zE (eD g.vs [i.d,i.a,i.b]);rw[G] at x;have J:cj (∀(W:World)(o:bh),aE W1.heap.size W1 W->ak W (tG ⟨o,0,tM⟩) [i.d,i.a,i.b]->zP 187 #[ub (jg m g),tU (tG ⟨o,0,tM⟩) 3 3] W (Z U E)):=by
  intro W o t K;have hj:=ur.out.j.below (by rw[HN.out];exact uv.out.trans (t.mono (by omega)):aE w.heap.size w W);have:=dB m g (tG ⟨o,0,tM⟩) [i.d,i.a,i.b] 3 W hj.vars hj.nv hj.vl (by unfold eC;simp) K (by simp;exact⟨HD.out rfl,HA.out rfl,HB.out rfl⟩);rw[G] at this;exact this
 have ue:cj (∀(W:World)(o:bh),aW W (tG ⟨o,0,tM⟩) gX->zS 226 #[Z U E,tS i.sign,tU (tG ⟨o,0,tM⟩) 11 11] W (Z U R)):=by
  intro W o K;rw[x.out];exact oP E i.sign gX (tG ⟨o,0,tM⟩) 11 W (by unfold eC gX;simp) K
 have q:cj (∀W,aE W1.heap.size W1 W->W.cell? ⟨N+1,1,tM⟩=tG (Z U i.d)/\W.cell? ⟨N+1,2,tM⟩=tG (Z U i.a)/\W.cell? ⟨N+1,3,tM⟩=tG (Z U i.b)/\W.cell? ⟨N+1,6,tM⟩=tG (tS i.sign)/\aE W1.heap.size W1 W):=λW t=>
  ⟨by rw[t.cell (p:=⟨N+1,1,tM⟩) y];exact i1,by rw[t.cell (p:=⟨N+1,2,tM⟩) y];exact i2,by rw[t.cell (p:=⟨N+1,3,tM⟩) y];exact i3,by rw[t.cell (p:=⟨N+1,6,tM⟩) y];exact i6,t⟩
 have HI:cj (∀(W:World)(B:bh),B=W.heap.size->ak (W.alloc (uc #[Z U i.d,Z U i.a,Z U i.b] 3)) (tG ⟨B,0,tM⟩) [i.d,i.a,i.b]):=λW B hB=>Cv hB;have up:cj (∀(W:World)(B:bh),B=W.heap.size->aW (W.alloc (uc #[tS ⟨#[43]⟩,tS ⟨#[45]⟩,tS ⟨#[42]⟩,tS ⟨#[47]⟩,tS ⟨#[37]⟩,tS ⟨#[60]⟩,tS ⟨#[60,61]⟩,tS ⟨#[62]⟩,tS ⟨#[62,61]⟩,tS ⟨#[61,61]⟩,tS ⟨#[33,61]⟩] 9)) (tG ⟨B,0,tM⟩) gX):=λW B hB=>sV hB;clear x HD HA HB HT ur G;go_enter fR,fy
 go_wp2_with (refine cm rfl 184 _ rfl N rfl 184 (jg m g) (0,0) _ vc.out cM rfl (by kernel_rfl) ?_)
 go_region_held3 (λw'=>w'.cell? ⟨N+1,1,tM⟩=tG (Z U i.d)/\w'.cell? ⟨N+1,2,tM⟩=tG (Z U i.a)/\w'.cell? ⟨N+1,3,tM⟩=tG (Z U i.b)/\w'.cell? ⟨N+1,6,tM⟩=tG (tS i.sign)/\aE W1.heap.size W1 w')
  (first
   |(exact z)
   |(exact q.out _ ((aq _ _).drew))
   |(exact q.out _ (((aq _ _).drew).alloc (by simp) _))
   |(exact q.out _ ((((aq _ _).drew).alloc (by simp) _).alloc (by simp<;>omega) _))
   |(exact q.out _ f)
   |(exact q.out _ (f.alloc (by have:=f.size;omega) _))
   |fail)
  (first
   |(go_at_call 187;first
      |(refine(J.out _ _ (((aq _ _).drew).alloc (by simp) _) (HI.out _ _ (by simp<;>omega))).mono ?_;rintro e v ⟨rfl,u⟩;have f:aE W1.heap.size W1 v:=(((aq _ _).drew).alloc (by simp) _).trans (u.mono (by simp));have z:=q.out _ f)
      |(refine(J.out _ _ ((((aq _ _).drew).alloc (by simp) _).alloc (by simp<;>omega) _) (HI.out _ _ (by simp<;>omega))).mono ?_;rintro e v ⟨rfl,u⟩;have f:aE W1.heap.size W1 v:=((((aq _ _).drew).alloc (by simp) _).alloc (by simp<;>omega) _).trans (u.mono (by simp<;>omega));have z:=q.out _ f)
      |(refine(J.out _ _ ((((aq _ _).drew).alloc (by simp) _).alloc (by simp<;>omega) _) ((HI.out _ _ (by simp<;>omega)).below ((aq _ _).alloc (cg _) _))).mono ?_;rintro e v ⟨rfl,u⟩;have f:aE W1.heap.size W1 v:=((((aq _ _).drew).alloc (by simp) _).alloc (by simp<;>omega) _).trans (u.mono (by simp<;>omega));have z:=q.out _ f))
   |(go_at_call 226;first
      |(refine(ue.out _ _ (up.out _ _ (by simp))).mono ?_;rintro e ux ⟨rfl,rfl⟩)
      |(refine(ue.out _ _ ((up.out _ _ (by simp<;>omega)).below u)).mono ?_;rintro e ux ⟨rfl,rfl⟩)
      |(refine(ue.out _ _ (((up.out _ _ (by simp<;>omega)).below ((aq _ _).alloc (cg _) _)).below u)).mono ?_;rintro e ux ⟨rfl,rfl⟩)))
 all_goals
  clear z;go_wp2;go_ret;refine⟨rfl, ?_⟩;rw[HN.out];exact uv.out.trans (qe (by first|exact f|exact f.alloc (by have:=f.size;omega) _) (by omega))
section
variable {P:lr}{ops:eA mS}{Q:Exit->Act->World->Prop}{md:i8}{S:World->Prop}
theorem zW (i:bh)(v:cA){d:mS}{fuel:bh}{listed:eA mm}{a:Act}{w:World}(hi:ops[i]?=tG d)
  (h:wpAnyH P md ops Q S fuel (listed.setIfInBounds i tP) (a.put d.dst v) w)
  (e:∀w,S w->(execOp a.eval d).run P w= .ok (.value v) w:=by intro w f;(try dsimp only at f);go_simp)
  (g:gx d (pk ops a.tmps)=tP:=by rfl)(j:gw ops=tP:=by kernel_rfl)(o:n3 md ops listed i=tP:=by kernel_rfl)(q:(fg md ops listed).contains i=tP:=by kernel_rfl)
  (t:∀c a w,Q (.panic c) (a.put d.dst v) w->Q (.panic c) a w:=by exact λ_ _ _ h=>h)(u:S w:=by assumption):wpAnyH P md ops Q S (fuel+1) listed a w:=
 wpAnyH_take hi j o q t (.inl ⟨g,e⟩) u h
theorem zX (i:bh){d:mS}{fuel:bh}{listed:eA mm}{a:Act}{w:World}(hi:ops[i]?=tG d)
  (h:wpAnyH P md ops Q S fuel (listed.setIfInBounds i tP) (a.put d.dst undef) w)
  (e:gx d (pk ops a.tmps)=tR:=by rfl)(f:gw ops=tP:=by kernel_rfl)(g:n3 md ops listed i=tP:=by kernel_rfl)(j:(fg md ops listed).contains i=tP:=by kernel_rfl)
  (o:∀c a w,Q (.panic c) (a.put d.dst undef) w->Q (.panic c) a w:=by exact λ_ _ _ h=>h)(q:S w:=by assumption):wpAnyH P md ops Q S (fuel+1) listed a w:=
 wpAnyH_take hi f g j o (.inr ⟨e,rfl⟩) q h
end
theorem FQ (m:Mo)(g:Fn)(i:Ins)(w:World)(uv:i.op=14)(h:dX w m g i):
  zP 189 #[ub (jg m g),ub i.cells] w (Z U (ax m g.vs i)):=by
 have HE:cj (ax m g.vs i=eY (bU (!(ay g.vs i.d).1&&(ay g.vs i.a).1) 7) i.sign jC):=by
  unfold cj ax;rw[uv];rfl
 obtain⟨R,hR⟩:=zE (ax m g.vs i);rw[hR] at HE⊢;clear hR;have vp:=zH h;obtain⟨N,W1,hN,vr,vt,ux,⟨i0,i1,i2,i3,i4,i6⟩,E,vu,G,vc,vx,HT,HD,HA,HB⟩:=cB uv h;clear h uv;obtain⟨⟨ba,sa⟩,J⟩:∃t,ay g.vs i.a=t:=⟨_,rfl⟩
 obtain⟨⟨bd,sd⟩,ue⟩:∃t,ay g.vs i.d=t:=⟨_,rfl⟩
 have vy:(ay g.vs i.a).1=ba:=by rw[J]
 have we:(ay g.vs i.a).2=sa:=by rw[J]
 have wg:(ay g.vs i.d).1=bd:=by rw[ue]
 have wj:(ay g.vs i.d).2=sd:=by rw[ue]
 have HV:cj (∀v,v=i.a\/v=i.d->isVar g.vs.length v=tP):=λv h=>by rcases h with rfl|rfl;exact HA.out rfl;exact HD.out rfl
 have vd:cj (∀(W:World)(v:aw),aE W1.heap.size W1 W->isVar g.vs.length v=tP->ge am 188 #[ub #[tU m.sA m.ss.length m.sC,tU m.fA m.fs.length m.fC,tS g.c.nm,Z U g.c.par,tU g.c.varsA g.c.nvars g.c.varsC,ua g.c.rp,tS g.c.rto,Z U g.c.rcl,tU g.c.fromA g.c.nfrom g.c.fromC,tU g.c.insA g.c.ins.length g.c.insC],Z U v] W λe w'=>e= ud (ub #[ua (ay g.vs v).1,tS (ay g.vs v).2])/\aE W1.heap.size W1 w'/\aE W.heap.size W w'):=by
  intro W v y hv;refine(HT.out W v (by rw[E.out];exact G.out.trans (y.mono (by omega))) hv).mono ?_;rintro e w' ⟨rfl,hb⟩;exact⟨rfl,y.trans (hb.mono y.size),hb⟩
 have vf:cj (R=eY (bU (!bd&&ba) 7) i.sign jC):=by unfold cj;rw[HE.out,J,ue]
 have up:cj (∀(W:World)(ur:bh),aW W (tG ⟨ur,0,tM⟩) jC->zS 226 #[Z U (bU (!bd&&ba) 7),tS i.sign,tU (tG ⟨ur,0,tM⟩) 2 2] W (Z U R)):=by
  intro W ur vq;rw[vf.out];exact oP _ i.sign jC (tG ⟨ur,0,tM⟩) 2 W (by unfold eC jC;simp) vq
 have vh:cj (∀W,aE W1.heap.size W1 W->jK W N m g):=λW y=>jK.of ((y.block N (by omega)).trans vc.out);have o:cj (∀W,aE W1.heap.size W1 W->W.cell? ⟨N,0,tM⟩=tG (tU m.sA m.ss.length m.sC)/\W.cell? ⟨N,1,tM⟩=tG (tU m.fA m.fs.length m.fC)/\W.cell? ⟨N,2,tM⟩=tG (tS g.c.nm)/\W.cell? ⟨N,3,tM⟩=tG (Z U g.c.par)/\W.cell? ⟨N,4,tM⟩=tG (tU g.c.varsA g.c.nvars g.c.varsC)/\W.cell? ⟨N,5,tM⟩=tG (ua g.c.rp)/\W.cell? ⟨N,6,tM⟩=tG (tS g.c.rto)/\W.cell? ⟨N,7,tM⟩=tG (Z U g.c.rcl)/\W.cell? ⟨N,8,tM⟩=tG (tU g.c.fromA g.c.nfrom g.c.fromC)/\W.cell? ⟨N,9,tM⟩=tG (tU g.c.insA g.c.ins.length g.c.insC)/\W.cell? ⟨N+1,1,tM⟩=tG (Z U i.d)/\W.cell? ⟨N+1,2,tM⟩=tG (Z U i.a)/\W.cell? ⟨N+1,6,tM⟩=tG (tS i.sign)/\aE W1.heap.size W1 W):=λW y=>by
  obtain⟨a0,a1,a2,a3,a4,a5,a6,a7,a8,a9⟩:=vh.out W y;exact⟨a0,a1,a2,a3,a4,a5,a6,a7,a8,a9,by rw[y.cell (p:=⟨N+1,1,tM⟩) ux];exact i1,by rw[y.cell (p:=⟨N+1,2,tM⟩) ux];exact i2,by rw[y.cell (p:=⟨N+1,6,tM⟩) ux];exact i6,y⟩
 have q:cj (∀(W:World)(B:bh),B=W.heap.size->aW (W.alloc (uc #[tS ⟨#[61,61]⟩,tS ⟨#[33,61]⟩] 9)) (tG ⟨B,0,tM⟩) jC):=λW B hB=>sV hB;have wk:=ko;clear HE HD HA HB HT vp J ue vh vf;cases bd with
 |false=>
  go_enter fR,fy
  go_wp2_with (refine cm rfl 184 _ rfl N rfl 184 (jg m g) (0,0) _ vc.out cM rfl (by kernel_rfl) ?_)
  go_region_held3 (λw'=>w'.cell? ⟨N,0,tM⟩=tG (tU m.sA m.ss.length m.sC)/\w'.cell? ⟨N,1,tM⟩=tG (tU m.fA m.fs.length m.fC)/\w'.cell? ⟨N,2,tM⟩=tG (tS g.c.nm)/\w'.cell? ⟨N,3,tM⟩=tG (Z U g.c.par)/\w'.cell? ⟨N,4,tM⟩=tG (tU g.c.varsA g.c.nvars g.c.varsC)/\w'.cell? ⟨N,5,tM⟩=tG (ua g.c.rp)/\w'.cell? ⟨N,6,tM⟩=tG (tS g.c.rto)/\w'.cell? ⟨N,7,tM⟩=tG (Z U g.c.rcl)/\w'.cell? ⟨N,8,tM⟩=tG (tU g.c.fromA g.c.nfrom g.c.fromC)/\w'.cell? ⟨N,9,tM⟩=tG (tU g.c.insA g.c.ins.length g.c.insC)/\w'.cell? ⟨N+1,1,tM⟩=tG (Z U i.d)/\w'.cell? ⟨N+1,2,tM⟩=tG (Z U i.a)/\w'.cell? ⟨N+1,6,tM⟩=tG (tS i.sign)/\aE W1.heap.size W1 w')
   (first
    |(exact u)
    |(exact o.out _ (by first|exact(aq _ _).drew|exact((aq _ _).drew).alloc (by simp) _|exact f|exact f.alloc (by have:=f.size;omega) _|fail))
    |fail)
   (first
    |(go_at_call 188;refine(vd.out _ _ (by first|exact(aq _ _).drew|exact((aq _ _).drew).alloc (by simp) _|exact f|exact f.alloc (by have:=f.size;omega) _|fail) (HV.out _ (by first|exact .inl rfl|exact .inr rfl))).mono ?_;rintro e vm ⟨rfl,f,x⟩;have u:=o.out _ f)
    |(go_at_call 99;refine(aD _ _ _).mono ?_;rintro e A ⟨rfl,rfl⟩)
    |(go_at_call 226;refine(up.out _ _ (by first|exact q.out _ _ rfl|(refine aW.below ?_ x;exact q.out _ _ rfl)|(refine aW.below ?_ x;refine aW.below ?_ ((aq _ _).drew);exact q.out _ _ (by first|omega|(simp<;>omega)))|(refine aW.below ?_ x;refine aW.below ?_ (by assumption);refine aW.below ?_ ((aq _ _).drew);exact q.out _ _ (by first|omega|(simp<;>omega)))|fail)).mono ?_;rintro e A ⟨rfl,rfl⟩))
  all_goals
   clear u;go_wp2;go_ret;refine⟨rfl, ?_⟩;rw[E.out];exact G.out.trans (qe (by first|exact f|exact f.alloc (by have:=f.size;omega) _) (by omega))
 |true=>
  go_enter fR,fy
  go_wp2_with (refine cm rfl 184 _ rfl N rfl 184 (jg m g) (0,0) _ vc.out cM rfl (by kernel_rfl) ?_)
  refine wp_region_held_drew (S:=(λw'=>w'.cell? ⟨N,0,tM⟩=tG (tU m.sA m.ss.length m.sC)/\w'.cell? ⟨N,1,tM⟩=tG (tU m.fA m.fs.length m.fC)/\w'.cell? ⟨N,2,tM⟩=tG (tS g.c.nm)/\w'.cell? ⟨N,3,tM⟩=tG (Z U g.c.par)/\w'.cell? ⟨N,4,tM⟩=tG (tU g.c.varsA g.c.nvars g.c.varsC)/\w'.cell? ⟨N,5,tM⟩=tG (ua g.c.rp)/\w'.cell? ⟨N,6,tM⟩=tG (tS g.c.rto)/\w'.cell? ⟨N,7,tM⟩=tG (Z U g.c.rcl)/\w'.cell? ⟨N,8,tM⟩=tG (tU g.c.fromA g.c.nfrom g.c.fromC)/\w'.cell? ⟨N,9,tM⟩=tG (tU g.c.insA g.c.ins.length g.c.insC)/\w'.cell? ⟨N+1,1,tM⟩=tG (Z U i.d)/\w'.cell? ⟨N+1,2,tM⟩=tG (Z U i.a)/\w'.cell? ⟨N+1,6,tM⟩=tG (tS i.sign)/\aE W1.heap.size W1 w')) (by kernel_rfl) (o.out _ (aq _ _).drew) (λz=> ?_);refine zW 0 (ub #[tU m.sA m.ss.length m.sC,tU m.fA m.fs.length m.fC,tS g.c.nm,Z U g.c.par,tU g.c.varsA g.c.nvars g.c.varsC,ua g.c.rp,tS g.c.rto,Z U g.c.rcl,tU g.c.fromA g.c.nfrom g.c.fromC,tU g.c.insA g.c.ins.length g.c.insC]) rfl ?_
  try simp only[eh,cC,cw,bp,cn,co]
  refine zW 1 (tW (tG ⟨N+1,1,tM⟩)) rfl ?_
  try simp only[eh,cC,cw,cy,bp,cn,co]
  refine zW 2 (Z U i.d) rfl ?_
  try simp only[eh,cC,cw,cy,bp,cn,co]
  refine zW 14 (tW (tG ⟨N+1,6,tM⟩)) rfl ?_
  try simp only[eh,cC,cw,cy,bp,cn,co]
  refine zW 15 (tS i.sign) rfl ?_
  try simp only[eh,cC,cw,cy,bp,cn,co]
  refine lk (rs:=[3,16]) (by kernel_rfl) (by simp) ?_;refine gv rfl (λK j=> ?_) ?_
  ·
   go_simp
   (go_at_call 188;refine(vd.out _ _ (by first|exact(aq _ _).drew|exact((aq _ _).drew).alloc (by simp) _|exact f|exact f.alloc (by have:=f.size;omega) _|fail) (HV.out _ (by first|exact .inl rfl|exact .inr rfl))).mono ?_;rintro e vm ⟨rfl,f,x⟩;have u:=o.out _ f)
   go_wp2_with fail
   refine j.out _ _ (by first|exact u|exact o.out _ (by first|exact(aq _ _).drew|exact((aq _ _).drew).alloc (by simp) _|exact f|exact f.alloc (by have:=f.size;omega) _|fail)|fail) (λz=> ?_);clear j K
   try simp only[eh,cC,cw,cy,bp,cn,co]
   refine zW 4 (ua tP) rfl ?_
   try simp only[eh,cC,cw,cy,bp,cn,co]
   refine zW 5 (ua tR) rfl ?_
   try simp only[eh,cC,cw,cy,bp,cn,co]
   refine zW 6 (ua tR) rfl ?_
   try simp only[eh,cC,cw,cy,bp,cn,co]
   refine zX 7 rfl ?_
   try simp only[eh,cC,cw,cy,bp,cn,co]
   refine zX 8 rfl ?_
   try simp only[eh,cC,cw,cy,bp,cn,co]
   refine zX 9 rfl ?_
   try simp only[eh,cC,cw,cy,bp,cn,co]
   refine zX 10 rfl ?_
   try simp only[eh,cC,cw,cy,bp,cn,co]
   refine zX 11 rfl ?_
   try simp only[eh,cC,cw,cy,bp,cn,co]
   refine zW 12 (ua tR) rfl ?_
   try simp only[eh,cC,cw,cy,bp,cn,co]
   refine lk (rs:=[13,16]) (by kernel_rfl) (by simp) ?_;refine gv rfl (λK j=> ?_) ?_
   ·
    go_simp
    (go_at_call 99;refine(aD _ _ _).mono ?_;rintro e A ⟨rfl,rfl⟩)
    go_wp2_with fail
    refine j.out _ _ (by first|exact u|exact o.out _ (by first|exact(aq _ _).drew|exact((aq _ _).drew).alloc (by simp) _|exact f|exact f.alloc (by have:=f.size;omega) _|fail)|fail) (λz=> ?_);clear j K
    try simp only[eh,cC,cw,cy,bp,cn,co]
    refine lk (rs:=[16]) (by kernel_rfl) (by simp) ?_;refine gv rfl (λK j=> ?_) ?_
    ·
     go_simp;refine j.out _ _ (by first|exact u|exact o.out _ (by first|exact(aq _ _).drew|exact((aq _ _).drew).alloc (by simp) _|exact f|exact f.alloc (by have:=f.size;omega) _|fail)|fail) (λz=> ?_);clear j K
     try simp only[eh,cC,cw,cy,bp,cn,co]
     refine lk (rs:=[17]) (by kernel_rfl) (by simp) ?_;refine gv rfl (λK j=> ?_) ?_
     ·
      go_simp
      (go_at_call 226;refine(up.out _ _ (by first|exact q.out _ _ rfl|(refine aW.below ?_ x;exact q.out _ _ rfl)|(refine aW.below ?_ x;refine aW.below ?_ ((aq _ _).drew);exact q.out _ _ (by first|omega|(simp<;>omega)))|(refine aW.below ?_ x;refine aW.below ?_ (by assumption);refine aW.below ?_ ((aq _ _).drew);exact q.out _ _ (by first|omega|(simp<;>omega)))|fail)).mono ?_;rintro e A ⟨rfl,rfl⟩)
      go_wp2_with fail
      refine j.out _ _ (by first|exact u|exact o.out _ (by first|exact(aq _ _).drew|exact((aq _ _).drew).alloc (by simp) _|exact f|exact f.alloc (by have:=f.size;omega) _|fail)|fail) (λz=> ?_);clear j K
      try simp only[eh,cC,cw,cy,bp,cn,co]
      refine zW 18 (Z U R) rfl ?_
      try simp only[eh,cC,cw,cy,bp,cn,co]
      refine wpAnyH_done (by kernel_rfl) ?_ _;go_wp2;go_ret;refine⟨rfl, ?_⟩;rw[E.out];exact G.out.trans (qe (by first|exact f|exact f.alloc (by have:=f.size;omega) _) (by omega))
     exact ix
    exact ix
   refine gv rfl (λK j=> ?_) ?_
   ·
    go_simp;refine j.out _ _ (by first|exact u|exact o.out _ (by first|exact(aq _ _).drew|exact((aq _ _).drew).alloc (by simp) _|exact f|exact f.alloc (by have:=f.size;omega) _|fail)|fail) (λz=> ?_);clear j K
    try simp only[eh,cC,cw,cy,bp,cn,co]
    refine lk (rs:=[13]) (by kernel_rfl) (by simp) ?_;refine gv rfl (λK j=> ?_) ?_
    ·
     go_simp
     (go_at_call 99;refine(aD _ _ _).mono ?_;rintro e A ⟨rfl,rfl⟩)
     go_wp2_with fail
     refine j.out _ _ (by first|exact u|exact o.out _ (by first|exact(aq _ _).drew|exact((aq _ _).drew).alloc (by simp) _|exact f|exact f.alloc (by have:=f.size;omega) _|fail)|fail) (λz=> ?_);clear j K
     try simp only[eh,cC,cw,cy,bp,cn,co]
     refine lk (rs:=[17]) (by kernel_rfl) (by simp) ?_;refine gv rfl (λK j=> ?_) ?_
     ·
      go_simp
      (go_at_call 226;refine(up.out _ _ (by first|exact q.out _ _ rfl|(refine aW.below ?_ x;exact q.out _ _ rfl)|(refine aW.below ?_ x;refine aW.below ?_ ((aq _ _).drew);exact q.out _ _ (by first|omega|(simp<;>omega)))|(refine aW.below ?_ x;refine aW.below ?_ (by assumption);refine aW.below ?_ ((aq _ _).drew);exact q.out _ _ (by first|omega|(simp<;>omega)))|fail)).mono ?_;rintro e A ⟨rfl,rfl⟩)
      go_wp2_with fail
      refine j.out _ _ (by first|exact u|exact o.out _ (by first|exact(aq _ _).drew|exact((aq _ _).drew).alloc (by simp) _|exact f|exact f.alloc (by have:=f.size;omega) _|fail)|fail) (λz=> ?_);clear j K
      try simp only[eh,cC,cw,cy,bp,cn,co]
      refine zW 18 (Z U R) rfl ?_
      try simp only[eh,cC,cw,cy,bp,cn,co]
      refine wpAnyH_done (by kernel_rfl) ?_ _;go_wp2;go_ret;refine⟨rfl, ?_⟩;rw[E.out];exact G.out.trans (qe (by first|exact f|exact f.alloc (by have:=f.size;omega) _) (by omega))
     exact ix
    exact ix
   exact ix
  refine gv rfl (λK j=> ?_) ?_
  ·
   go_simp;refine j.out _ _ (by first|exact u|exact o.out _ (by first|exact(aq _ _).drew|exact((aq _ _).drew).alloc (by simp) _|exact f|exact f.alloc (by have:=f.size;omega) _|fail)|fail) (λz=> ?_);clear j K
   try simp only[eh,cC,cw,cy,bp,cn,co]
   refine lk (rs:=[3]) (by kernel_rfl) (by simp) ?_;refine gv rfl (λK j=> ?_) ?_
   ·
    go_simp
    (go_at_call 188;refine(vd.out _ _ (by first|exact(aq _ _).drew|exact((aq _ _).drew).alloc (by simp) _|exact f|exact f.alloc (by have:=f.size;omega) _|fail) (HV.out _ (by first|exact .inl rfl|exact .inr rfl))).mono ?_;rintro e vm ⟨rfl,f,x⟩;have u:=o.out _ f)
    go_wp2_with fail
    refine j.out _ _ (by first|exact u|exact o.out _ (by first|exact(aq _ _).drew|exact((aq _ _).drew).alloc (by simp) _|exact f|exact f.alloc (by have:=f.size;omega) _|fail)|fail) (λz=> ?_);clear j K
    try simp only[eh,cC,cw,cy,bp,cn,co]
    refine zW 4 (ua tP) rfl ?_
    try simp only[eh,cC,cw,cy,bp,cn,co]
    refine zW 5 (ua tR) rfl ?_
    try simp only[eh,cC,cw,cy,bp,cn,co]
    refine zW 6 (ua tR) rfl ?_
    try simp only[eh,cC,cw,cy,bp,cn,co]
    refine zX 7 rfl ?_
    try simp only[eh,cC,cw,cy,bp,cn,co]
    refine zX 8 rfl ?_
    try simp only[eh,cC,cw,cy,bp,cn,co]
    refine zX 9 rfl ?_
    try simp only[eh,cC,cw,cy,bp,cn,co]
    refine zX 10 rfl ?_
    try simp only[eh,cC,cw,cy,bp,cn,co]
    refine zX 11 rfl ?_
    try simp only[eh,cC,cw,cy,bp,cn,co]
    refine zW 12 (ua tR) rfl ?_
    try simp only[eh,cC,cw,cy,bp,cn,co]
    refine lk (rs:=[13]) (by kernel_rfl) (by simp) ?_;refine gv rfl (λK j=> ?_) ?_
    ·
     go_simp
     (go_at_call 99;refine(aD _ _ _).mono ?_;rintro e A ⟨rfl,rfl⟩)
     go_wp2_with fail
     refine j.out _ _ (by first|exact u|exact o.out _ (by first|exact(aq _ _).drew|exact((aq _ _).drew).alloc (by simp) _|exact f|exact f.alloc (by have:=f.size;omega) _|fail)|fail) (λz=> ?_);clear j K
     try simp only[eh,cC,cw,cy,bp,cn,co]
     refine lk (rs:=[17]) (by kernel_rfl) (by simp) ?_;refine gv rfl (λK j=> ?_) ?_
     ·
      go_simp
      (go_at_call 226;refine(up.out _ _ (by first|exact q.out _ _ rfl|(refine aW.below ?_ x;exact q.out _ _ rfl)|(refine aW.below ?_ x;refine aW.below ?_ ((aq _ _).drew);exact q.out _ _ (by first|omega|(simp<;>omega)))|(refine aW.below ?_ x;refine aW.below ?_ (by assumption);refine aW.below ?_ ((aq _ _).drew);exact q.out _ _ (by first|omega|(simp<;>omega)))|fail)).mono ?_;rintro e A ⟨rfl,rfl⟩)
      go_wp2_with fail
      refine j.out _ _ (by first|exact u|exact o.out _ (by first|exact(aq _ _).drew|exact((aq _ _).drew).alloc (by simp) _|exact f|exact f.alloc (by have:=f.size;omega) _|fail)|fail) (λz=> ?_);clear j K
      try simp only[eh,cC,cw,cy,bp,cn,co]
      refine zW 18 (Z U R) rfl ?_
      try simp only[eh,cC,cw,cy,bp,cn,co]
      refine wpAnyH_done (by kernel_rfl) ?_ _;go_wp2;go_ret;refine⟨rfl, ?_⟩;rw[E.out];exact G.out.trans (qe (by first|exact f|exact f.alloc (by have:=f.size;omega) _) (by omega))
     exact ix
    exact ix
   exact ix
  exact ix
def qd:bj bm:=[⟨#[110,117,109]⟩,⟨#[110,117,108,108]⟩,⟨#[99,111,112,121]⟩,⟨#[98,105,110]⟩,⟨#[103,101,116]⟩,⟨#[112,117,116]⟩,⟨#[108,111,97,100]⟩,⟨#[115,116,111,114,101]⟩,⟨#[103,105,118,101]⟩,⟨#[116,97,107,101]⟩,⟨#[115,101,116]⟩,⟨#[110,101,119]⟩,⟨#[102,114,101,101]⟩,⟨#[105,115,110,117,108,108]⟩,⟨#[99,97,108,108]⟩,⟨#[106,117,109,112]⟩,⟨#[98,114,97,110,99,104]⟩,⟨#[114,101,116]⟩]
def jD (op:aw):bm:=if op<1\/18<op then⟨#[]⟩ else(qd[(op-1).toNat]?).getD ⟨#[]⟩
theorem wH {op:aw}(g:¬op<1)(h:¬18<op):∃(k:bh) (s:bm),op-1=(k:aw)/\k<18/\qd[k]?=tG s/\jD op=s:=by
 obtain⟨k,d⟩:∃k:bh,op-1=(k:aw):=⟨(op-1).toNat,by omega⟩
 have e:k<18:=by omega
 obtain⟨s,f⟩:∃s,qd[k]?=tG s:=⟨_,ap (show k<qd.length from e)⟩
 refine⟨k,s,d,e,f, ?_⟩;unfold jD;rw[bx (by omega),d,eW,f];rfl
theorem Am {op:aw}:(jD op==⟨#[]⟩)=(decide (op<1)||decide (18<op)):=by
 by_cases h:op<1\/18<op
 ·have e:jD op=⟨#[]⟩:=cI h
  rw[e];rcases h with h|h
  ·rw[cV h];rfl
  ·rw[cV h,Bool.or_true];rfl
 ·obtain⟨k,s,o,d,f,g⟩:=wH (op:=op) (by omega) (by omega)
  rw[g,cv (by omega),cv (by omega)];have:∀j:bh,j<18->∀s,qd[j]?=tG s->(s==(⟨#[]⟩:bm))=tR:=by decide
  exact this k d s f
theorem kN (op:aw)(w:World):zP 183 #[Z U op] w (tS (jD op)):=by
 have hst:∀(c:eA cA),c.size=18->(dt ⟨w.heap.size,0,tM⟩ [tS ⟨#[110,117,109]⟩,tS ⟨#[110,117,108,108]⟩,tS ⟨#[99,111,112,121]⟩,tS ⟨#[98,105,110]⟩,tS ⟨#[103,101,116]⟩,tS ⟨#[112,117,116]⟩,tS ⟨#[108,111,97,100]⟩,tS ⟨#[115,116,111,114,101]⟩,tS ⟨#[103,105,118,101]⟩,tS ⟨#[116,97,107,101]⟩,tS ⟨#[115,101,116]⟩,tS ⟨#[110,101,119]⟩,tS ⟨#[102,114,101,101]⟩,tS ⟨#[105,115,110,117,108,108]⟩,tS ⟨#[99,97,108,108]⟩,tS ⟨#[106,117,109,112]⟩,tS ⟨#[98,114,97,110,99,104]⟩,tS ⟨#[114,101,116]⟩] 0).run am (w.alloc (uc c 316))= .ok () (w.alloc (uc #[tS ⟨#[110,117,109]⟩,tS ⟨#[110,117,108,108]⟩,tS ⟨#[99,111,112,121]⟩,tS ⟨#[98,105,110]⟩,tS ⟨#[103,101,116]⟩,tS ⟨#[112,117,116]⟩,tS ⟨#[108,111,97,100]⟩,tS ⟨#[115,116,111,114,101]⟩,tS ⟨#[103,105,118,101]⟩,tS ⟨#[116,97,107,101]⟩,tS ⟨#[115,101,116]⟩,tS ⟨#[110,101,119]⟩,tS ⟨#[102,114,101,101]⟩,tS ⟨#[105,115,110,117,108,108]⟩,tS ⟨#[99,97,108,108]⟩,tS ⟨#[106,117,109,112]⟩,tS ⟨#[98,114,97,110,99,104]⟩,tS ⟨#[114,101,116]⟩] 316)):=λc j=>
  cx (P:=am) w 316 c #[tS ⟨#[110,117,109]⟩,tS ⟨#[110,117,108,108]⟩,tS ⟨#[99,111,112,121]⟩,tS ⟨#[98,105,110]⟩,tS ⟨#[103,101,116]⟩,tS ⟨#[112,117,116]⟩,tS ⟨#[108,111,97,100]⟩,tS ⟨#[115,116,111,114,101]⟩,tS ⟨#[103,105,118,101]⟩,tS ⟨#[116,97,107,101]⟩,tS ⟨#[115,101,116]⟩,tS ⟨#[110,101,119]⟩,tS ⟨#[102,114,101,101]⟩,tS ⟨#[105,115,110,117,108,108]⟩,tS ⟨#[99,97,108,108]⟩,tS ⟨#[106,117,109,112]⟩,tS ⟨#[98,114,97,110,99,104]⟩,tS ⟨#[114,101,116]⟩] (by show _=tG 18;kernel_rfl) j (by simp[ct])
 have y:∀w,(Instr.build 316 #[(0,tS ⟨#[110,117,109]⟩),(1,tS ⟨#[110,117,108,108]⟩),(2,tS ⟨#[99,111,112,121]⟩),(3,tS ⟨#[98,105,110]⟩),(4,tS ⟨#[103,101,116]⟩),(5,tS ⟨#[112,117,116]⟩),(6,tS ⟨#[108,111,97,100]⟩),(7,tS ⟨#[115,116,111,114,101]⟩),(8,tS ⟨#[103,105,118,101]⟩),(9,tS ⟨#[116,97,107,101]⟩),(10,tS ⟨#[115,101,116]⟩),(11,tS ⟨#[110,101,119]⟩),(12,tS ⟨#[102,114,101,101]⟩),(13,tS ⟨#[105,115,110,117,108,108]⟩),(14,tS ⟨#[99,97,108,108]⟩),(15,tS ⟨#[106,117,109,112]⟩),(16,tS ⟨#[98,114,97,110,99,104]⟩),(17,tS ⟨#[114,101,116]⟩)]).run am w= .ok (ub #[tS ⟨#[110,117,109]⟩,tS ⟨#[110,117,108,108]⟩,tS ⟨#[99,111,112,121]⟩,tS ⟨#[98,105,110]⟩,tS ⟨#[103,101,116]⟩,tS ⟨#[112,117,116]⟩,tS ⟨#[108,111,97,100]⟩,tS ⟨#[115,116,111,114,101]⟩,tS ⟨#[103,105,118,101]⟩,tS ⟨#[116,97,107,101]⟩,tS ⟨#[115,101,116]⟩,tS ⟨#[110,101,119]⟩,tS ⟨#[102,114,101,101]⟩,tS ⟨#[105,115,110,117,108,108]⟩,tS ⟨#[99,97,108,108]⟩,tS ⟨#[106,117,109,112]⟩,tS ⟨#[98,114,97,110,99,104]⟩,tS ⟨#[114,101,116]⟩]) w:=λw=>by kernel_rfl
 obtain⟨N,e⟩:=zE w.heap.size;obtain⟨W1,g⟩:=zE (w.alloc (uc #[tS ⟨#[110,117,109]⟩,tS ⟨#[110,117,108,108]⟩,tS ⟨#[99,111,112,121]⟩,tS ⟨#[98,105,110]⟩,tS ⟨#[103,101,116]⟩,tS ⟨#[112,117,116]⟩,tS ⟨#[108,111,97,100]⟩,tS ⟨#[115,116,111,114,101]⟩,tS ⟨#[103,105,118,101]⟩,tS ⟨#[116,97,107,101]⟩,tS ⟨#[115,101,116]⟩,tS ⟨#[110,101,119]⟩,tS ⟨#[102,114,101,101]⟩,tS ⟨#[105,115,110,117,108,108]⟩,tS ⟨#[99,97,108,108]⟩,tS ⟨#[106,117,109,112]⟩,tS ⟨#[98,114,97,110,99,104]⟩,tS ⟨#[114,101,116]⟩] 316));have o:=iR g e;have d:=zH o;have h:=zH e;have z:W1.heap.size=N+1:=by rw[<-g];simp[e]
 have q:W1.heap[N]?=tG (uc (qd.map fz).toArray 316 (0,0)):=by rw[<-g,<-e];exact alloc_at _ _
 rw[e,g] at hst;clear o
 by_cases t:op<1
 ·have f:cj (jD op=⟨#[]⟩):=cI (.inl t)
  go_enter func183,ntmps183;go_wp2;go_ret;rw[f.out];exact⟨rfl,by first|exact d.out|(rw[h.out];exact d.out)⟩
 by_cases u:18<op
 ·have f:cj (jD op=⟨#[]⟩):=cI (.inr u)
  go_enter func183,ntmps183;go_wp2;go_ret;rw[f.out];exact⟨rfl,by first|exact d.out|(rw[h.out];exact d.out)⟩
 obtain⟨k,s,A,E,v,x⟩:=wH t u;have j:W1.cell? ⟨N,k,tM⟩=tG (tS s):=by
  rw[bw _ _ _ _ _ _ q];simp[v]
 have f:=zH x;have G:(k:aw)<18:=by omega
 clear q v x;go_enter func183,ntmps183;go_wp2;go_ret;rw[f.out];exact⟨rfl,by first|exact d.out|(rw[h.out];exact d.out)⟩
theorem qJ (m:Mo)(g:Fn)(i:Ins)(w:World)(f:1<=i.op/\i.op<=14)(h:dX w m g i):
  zP 189 #[ub (jg m g),ub i.cells] w (Z U (ax m g.vs i)):=by
 have d:i.op=1\/i.op=2\/i.op=3\/i.op=4\/i.op=5\/i.op=6\/i.op=7\/i.op=8\/i.op=9\/i.op=10\/i.op=11\/i.op=12\/i.op=13\/i.op=14:=by omega
 rcases d with e|e|e|e|e|e|e|e|e|e|e|e|e|e
 ·exact GL m g i w e h
 ·exact GR m g i w e h
 ·exact GQ m g i w e h
 ·exact GY m g i w e h
 ·exact GM m g i w e h
 ·exact GN m g i w e h
 ·exact GU m g i w e h
 ·exact GV m g i w e h
 ·exact GX m g i w e h
 ·exact FN m g i w e h
 ·exact FO m g i w e h
 ·exact FP m g i w e h
 ·exact FM m g i w e h
 ·exact FQ m g i w e h
structure GZ (w:World)(m:Mo)(g:Fn)(i:Ins):Prop where
 j:oQ w m g
 ar:i.args_in w
 al:i.args.length<=40
 kn:∀v,isVar g.vs.length v=tP->m.known (ay g.vs v)=tP
theorem kP {W1 W:World}{N:bh}(d:aE W1.heap.size W1 W){o:Obj}(h:W1.heap[N]?=tG o):W.heap[N]?=tG o:=
 (d.block N (br.1 h).1).trans h
theorem oV (op:aw):(jD op).toList.isEmpty=(decide (op<1)||decide (18<op)):=by
 rw[<-Am,fY];have e:(⟨#[]⟩:bm).toList=[]:=by rw[py]
 rw[e];cases (jD op).toList<;>rfl
def jE (w5:World)(N:bh)(m:Mo)(g:Fn)(i:Ins):Prop:=∀W,aE w5.heap.size w5 W->W.heap[N]?=tG (uc (jg m g) 184 (0,0))/\W.heap[N+1]?=tG (uc i.cells 42 (0,0))
theorem jE.next {w5 d:World}{N:bh}{m:Mo}{g:Fn}{i:Ins}(h:jE w5 N m g i)(e:aE w5.heap.size w5 d):jE d N m g i:=λW f=>h W (e.trans (f.mono e.size))
theorem jE.lt {w5:World}{N:bh}{m:Mo}{g:Fn}{i:Ins}(h:jE w5 N m g i):N+1<w5.heap.size:=(br.1 (h w5 (aq _ _)).2).1
def ek (m:Mo)(g:Fn)(i:Ins):aw:=
 if i.op=15 then iL m g.vs i
 else if i.op=16 then bU (isVar g.c.ins.length i.tI) 15
 else if i.op=17 then(if isVar g.c.ins.length i.tI&&isVar g.c.ins.length i.els then eD g.vs [i.a] else 15)
 else if i.op=18 then bU (ay g.vs i.a==g.ret) 7
 else ax m g.vs i
theorem yh {m:Mo}{g:Fn}{i:Ins}(h:¬(i.op<1\/18<i.op)):aF m g i=if aP g.vs.length (readsOf i++(if qY i.op then[i.d] else[]))=tR then 15 else ek m g i:=bx h
theorem wI {n:bh}{l:bj aw}(h:aP n l=tP){v:aw}(d:v∈l):isVar n v=tP:=gA.1 h v d
theorem qf {i:Ins}{l:bj aw}(h:sP i.op=tP):i.a∈readsOf i++l:=by unfold readsOf;rw[cI h];simp
theorem FR {i:Ins}{l:bj aw}(h:rM i.op=tP):i.b∈readsOf i++l:=by unfold readsOf;rw[cI h];simp
theorem wJ {i:Ins}{l:bj aw}(h:i.op=15){a:aw}(d:a∈i.args):a∈readsOf i++l:=by unfold readsOf;rw[cI h];simp[d]
theorem DI {i:Ins}(h:qY i.op=tP):i.d∈readsOf i++(if qY i.op then[i.d] else[]):=by rw[cI h];simp
theorem Ao (m:Mo)(g:Fn)(i:Ins)(w:World)(h:GZ w m g i):
  zP 136 #[ub (jg m g),ub i.cells] w (Z U (aF m g i)):=by
 have uv:=zH h;obtain⟨R,hR⟩:=zE (aF m g i);rw[hR];have HR:=zH hR;clear h hR;obtain⟨N,hN⟩:=zE w.heap.size;obtain⟨W1,An⟩:=zE ((w.alloc (uc (jg m g) 184)).alloc (uc i.cells 42));have A3:=vX An hN;have CC:W1.heap.size=N+2:=by rw[<-An];simp[hN]
 have A4:=vY An hN;have AE:=zl An hN;have i0:=zR AE 0 (Z U i.op);have At:cj (jE W1 N m g i):=λW K=>⟨kP K A4,kP K AE⟩
 have AF:=zH A3;have x:=zH hN;have CD:N+1<W1.heap.size:=by omega
 clear A3 A4 AE
 by_cases xT:i.op<1\/18<i.op
 ·have o:cj (R=3):=by unfold cj;rw[<-HR.out];exact cI xT
  have AH:(jD i.op).toList.isEmpty=tP:=by rw[oV];simpa using xT
  clear xT;go_enter func136,ntmps136
  go_wp2_with (go_at_call 183;refine(kN _ _).mono ?_;rintro e w2 ⟨rfl,we⟩;have wg:=zH we;clear we)
  go_ret;rw[o.out,x.out];exact⟨rfl,AF.out.trans (wg.out.mono (by omega))⟩
 have vm:=zH (yh (m:=m) (g:=g) xT);rw[HR.out] at vm;have A5:=zH xT;have AH:(jD i.op).toList.isEmpty=tR:=by
  rw[oV,cv (by omega),cv (by omega)];rfl
 clear xT HR;have yk:cj (∀W,aE w.heap.size w W->ge am 144 #[ub i.cells] W (fK W (readsOf i))):=λW K=>nu i W (uv.out.ar.below K) uv.out.al;have yb:cj (∀W,zP 142 #[ub i.cells] W (.tuple #[Z U (az i).1,ua (az i).2])):=λW=>lK i W uv.out.ar.1;have yd:cj ((readsOf i).length<=42):=lL i uv.out.al;obtain⟨rs,AI⟩:=zE (readsOf i);have Ax:=zH AI;rw[AI] at yk yd;clear AI;go_enter func136,ntmps136;cases hd:qY i.op with
 |true=>
  have e1:(az i).1=i.d:=by unfold az;rw[hd];rfl
  have e2:(az i).2=tP:=by unfold az;rw[hd];rfl
  rw[e1,e2] at yb;clear e1 e2
  go_upto_region 6 with(first
   |(go_at_call 183;refine(kN _ _).mono ?_;rintro e w2 ⟨rfl,we⟩;have vp:=zH (At.out.next we);have wg:cj (aE N w w2):=AF.out.trans (we.mono (by omega));clear we)
   |(refine cm rfl 42 _ rfl (N+1) rfl 42 i.cells (0,0) _ ((vp.out _ (aq _ _)).2) cD rfl (by kernel_rfl) ?_)
   |(refine cm rfl 42 _ rfl (N+1) rfl 42 i.cells (0,0) _ ((wj.out _ (aq _ _)).2) cD rfl (by kernel_rfl) ?_)
   |(go_at_call 144;refine(yk.out _ (by rw[x.out];exact wg.out)).mono ?_;rintro e w3 ⟨yp,yq,rfl,yr,wk⟩;have yv:=zH yr;have wj:=zH (vp.out.next wk);have yy:cj (aE N w w3):=wg.out.trans (wk.mono (by have:=vp.out.lt;omega));have BE:=wk.size;clear wk yr)
   |(go_at_call 142;refine(yb.out _).mono ?_;rintro e w4 ⟨rfl,vq⟩;have A6:=zH (wj.out.next vq);have ye:=zH (ownsRow_below yv.out vq);have Bk:cj (aE N w w4):=yy.out.trans (vq.mono (by have:=wj.out.lt;omega));have BT:=vq.size;clear vq))
  go_upto_region 7 with(at_builtin;refine aR rfl (.tmp 20) (.tmp 22) rfl w2.heap.size (tU yp rs.length yq) rs rfl (ownsRow_below ye.out ((aq _ _).alloc (cg _) _)) _ [i.d] 1 rfl (ak.one _ _ rfl) ?c1 ?c2 ?_)
  case c1=>have:=yd.out;simp;omega
  case c2=>simp;omega
  intro v5 w5 AD Bm;obtain⟨Bs,By,rfl⟩:=AD.isSlice;have yi:aE w2.heap.size w4 w5:=below_grown (v:= tU yp rs.length yq) (xs:=rs) ((aq _ _).alloc (by omega) _) (by simp;omega) (ownsRow_below ye.out ((aq _ _).alloc (cg _) _)) Bm;have BY:=vp.out.lt;have xf:cj (aE N w w5):=Bk.out.trans (yi.mono (by omega));have xj:cj (jE w5 N m g i):=λW K=>by
   have q:=A6.out w4 (aq _ _);have h5:=yi.size;exact⟨(K.block N (by omega)).trans ((yi.block N (by omega)).trans q.1),(K.block (N+1) (by omega)).trans ((yi.block (N+1) (by omega)).trans q.2)⟩
  have B5:=yi.size;obtain⟨L5,yW⟩:=zE (rs++[i.d]);rw[yW] at AD;have HL:cj (L5=readsOf i++(if qY i.op then[i.d] else[])):=by unfold cj;rw[hd,Ax.out,<-yW];rfl
  have wl:cj (zP 184 #[ub (jg m g),tU Bs L5.length By] w5 (ua (aP g.vs.length L5))):=
   qI m g Bs L5 By w5 uv.out.j.nv (by have:=yd.out;rw[<-yW];unfold eC;simp;omega) AD.at_
  rw[<-HL.out] at vm;rw[yW];have B6:=zH hd;clear AD Bm yi yv ye vp wj A6 At wg yy Bk yW yk yb yd Ax AH i0 hd;have xo:=zH (xj.out w5 (aq _ _));obtain⟨tb,ws⟩:=zE (aP g.vs.length L5);rw[ws] at wl;rw[ws] at vm;have zc:=zH ws;clear ws;cases tb with
  |false=>
   have o:cj (R=15):=vm.out
   go_wp2_with (first
    |(refine cm rfl 184 _ rfl N rfl 184 (jg m g) (0,0) _ (xo.out.1) cM rfl (by kernel_rfl) ?_)
    |(go_at_call 184;refine wl.out.mono ?_;rintro e f ⟨rfl,vr⟩;have vt:=zH vr;clear vr))
   go_ret;rw[o.out,x.out];exact⟨rfl,xf.out.trans (vt.out.mono (by omega))⟩
  |true=>
   have A:cj (R=ek m g i):=vm.out;clear vm
   go_upto_region 9 with(first
    |(refine cm rfl 184 _ rfl N rfl 184 (jg m g) (0,0) _ (xo.out.1) cM rfl (by kernel_rfl) ?_)
    |(go_at_call 184;refine wl.out.mono ?_;rintro e f ⟨rfl,vr⟩;have vt:=zH vr;clear vr))
   have vu:cj (jE f N m g i):=xj.out.next vt.out
   have up:cj (aE N w f):=xf.out.trans (vt.out.mono (by omega));have B7:=vu.out.lt;have E:=zH (vu.out f (aq _ _));have vx:cj (oQ f m g):=uv.out.j.below (by rw[x.out];exact up.out);have z0:=zR E.out.2 0 (Z U i.op);have z2:=zR E.out.2 2 (Z U i.a);have z9:=zR E.out.2 9 (Z U i.tI);have zj:=zR E.out.2 10 (Z U i.els);have ux:cj (∀v∈L5,isVar g.vs.length v=tP):=λv hv=>wI zc.out hv;clear xj wl vt xf xo zc
   by_cases G:i.op=15
   ·have o:cj (R=iL m g.vs i):=by unfold cj;rw[A.out];exact cI G
    have AK:cj (zP 185 #[ub (jg m g),ub i.cells] f (Z U (iL m g.vs i))):=
     sU m g i f vx.out (uv.out.ar.below (by rw[x.out];exact up.out)) (by have:=uv.out.al;unfold eC;omega) (ux.out _ (by rw[HL.out];exact DI (by rw[G];rfl))) (λa ha=>ux.out a (by rw[HL.out];exact wJ G ha))
    rw[G] at z0;clear A
    go_wp2_with (first
     |(refine cm rfl 184 _ rfl N rfl 184 (jg m g) (0,0) _ (E.out.1) cM rfl (by kernel_rfl) ?_)
     |(refine cm rfl 42 _ rfl (N+1) rfl 42 i.cells (0,0) _ (E.out.2) cD rfl (by kernel_rfl) ?_)
     |(go_at_call 185;refine AK.out.mono ?_;rintro e u ⟨rfl,z⟩;have vc:=zH z;clear z))
    go_ret;rw[o.out,x.out];exact⟨rfl,up.out.trans (vc.out.mono (by omega))⟩
   have B8:(i.op==15)=tR:=by rw[cT];exact G
   by_cases vd:i.op=16
   ·have o:cj (R=bU (isVar g.c.ins.length i.tI) 15):=by unfold cj;rw[A.out];unfold ek;rw[bx G,cI vd]
    rw[vd] at z0;clear A
    go_wp2_with (first
     |(refine cm rfl 184 _ rfl N rfl 184 (jg m g) (0,0) _ (E.out.1) cM rfl (by kernel_rfl) ?_)
     |(go_at_call 186;refine(iB m g i.tI f).mono ?_;rintro e u ⟨rfl,z⟩;have vc:=zH z;clear z)
     |(go_at_call 99;refine(aD _ _ _).mono ?_;rintro e w8 ⟨rfl,rfl⟩))
    go_ret;rw[o.out,x.out];exact⟨rfl,up.out.trans (vc.out.mono (by omega))⟩
   have B9:(i.op==16)=tR:=by rw[cT];exact vd
   by_cases vf:i.op=17
   ·have o:cj (R=if isVar g.c.ins.length i.tI&&isVar g.c.ins.length i.els then eD g.vs [i.a] else 15):=by unfold cj;rw[A.out];unfold ek;rw[bx G,bx vd,cI vf]
    have xp:cj (isVar g.vs.length i.a=tP):=ux.out _ (by rw[HL.out];exact qf (by rw[vf];rfl));rw[vf] at z0;obtain⟨t1,AM⟩:=zE (isVar g.c.ins.length i.tI);obtain⟨t2,AN⟩:=zE (isVar g.c.ins.length i.els);rw[AM,AN] at o;clear A;cases t1 with
    |false=>
     go_wp2_with (first
      |(refine cm rfl 184 _ rfl N rfl 184 (jg m g) (0,0) _ (E.out.1) cM rfl (by kernel_rfl) ?_)
      |(go_at_call 186;refine(iB m g _ _).mono ?_;rintro e u ⟨rfl,z⟩;have vc:=zH z;clear z))
     go_ret;rw[o.out,x.out];exact⟨rfl,up.out.trans (vc.out.mono (by omega))⟩
    |true=>
     have zp:cj (∀(W:World)(v:aw),jE W N m g i->aE N w W->ge am 186 #[ub (jg m g),Z U v] W λe w'=>e= ud (ua (isVar g.c.ins.length v))/\jE w' N m g i/\aE N w w'):=λW v K hB=>(iB m g v W).mono (by
      rintro e w' ⟨rfl,hb⟩;exact⟨rfl,K.next hb,hB.trans (hb.mono (by have:=K.lt;omega))⟩)
     have ue:=vu;have ur:=up;cases t2 with
     |false=>
      go_wp2_with (first
       |(refine cm rfl 184 _ rfl N rfl 184 (jg m g) (0,0) _ ((ue.out _ (aq _ _)).1) cM rfl (by kernel_rfl) ?_)
       |(go_at_call 186;refine(zp.out _ _ ue.out ur.out).mono ?_;clear ue ur;rintro e u ⟨rfl,y,vy⟩;have AS:=y.lt;obtain⟨y0,y1,y2,y3,y4,y5,y6,y7,y8,y9⟩:=jK.of (y u (aq _ _)).1;have zj:u.cell? ⟨N+1,10,tM⟩=tG (Z U i.els):=bw _ _ _ _ _ _ (y u (aq _ _)).2;have ue:=zH y;have ur:=zH vy;clear y vy))
      go_ret;rw[o.out,x.out];exact⟨rfl,ur.out⟩
     |true=>
      have AT:cj (∀(W:World),jE W N m g i->aE N w W->ge am 187 #[ub (jg m g),tU (tG ⟨W.heap.size,0,tM⟩) 1 1] (W.alloc (uc #[Z U i.a] 3)) λe w'=>e= ud (Z U (eD g.vs [i.a]))/\aE N w w'):=by
       intro W K hB;have zs:aE N w (W.alloc (uc #[Z U i.a] 3)):=hB.alloc (by have:=K.lt;omega) _;have hj:=uv.out.j.below (by rw[x.out];exact zs);refine(dB m g (tG ⟨W.heap.size,0,tM⟩) [i.a] 1 (W.alloc (uc #[Z U i.a] 3)) hj.vars hj.nv hj.vl (by unfold eC;simp) Al (by simp;exact xp.out)).mono ?_;rintro e w' ⟨rfl,hb⟩;exact⟨rfl,zs.trans (hb.mono (by have:=K.lt;simp;omega))⟩
      go_wp2_with (first
       |(refine cm rfl 184 _ rfl N rfl 184 (jg m g) (0,0) _ ((ue.out _ (aq _ _)).1) cM rfl (by kernel_rfl) ?_)
       |(go_at_call 186;refine(zp.out _ _ ue.out ur.out).mono ?_;clear ue ur;rintro e u ⟨rfl,y,vy⟩;have AS:=y.lt;obtain⟨y0,y1,y2,y3,y4,y5,y6,y7,y8,y9⟩:=jK.of (y u (aq _ _)).1;have zj:u.cell? ⟨N+1,10,tM⟩=tG (Z U i.els):=bw _ _ _ _ _ _ (y u (aq _ _)).2;have z2:u.cell? ⟨N+1,2,tM⟩=tG (Z U i.a):=bw _ _ _ _ _ _ (y u (aq _ _)).2;have ue:=zH y;have ur:=zH vy;clear y vy)
       |(go_at_call 187;refine(AT.out _ ue.out ur.out).mono ?_;rintro e w9 ⟨rfl,zv⟩;have AW:=zH zv;clear zv))
      go_ret;rw[o.out,x.out];exact⟨rfl,AW.out⟩
   have Cd:(i.op==17)=tR:=by rw[cT];exact vf
   by_cases vh:i.op=18
   ·have o:cj (R=bU (ay g.vs i.a==g.ret) 7):=by unfold cj;rw[A.out];unfold ek;rw[bx G,bx vd,bx vf,cI vh]
    have xp:cj (isVar g.vs.length i.a=tP):=ux.out _ (by rw[HL.out];exact qf (by rw[vh];rfl));rw[vh] at z0;obtain⟨⟨ba,sa⟩,xt⟩:∃t,ay g.vs i.a=t:=⟨_,rfl⟩
    obtain⟨d,xF⟩:=zE (((ba,sa):Ty)==(g.c.rp,g.c.rto));have Cl:∀w,(gE 10000 32 (ub #[ua ba,tS sa]) (ub #[ua g.c.rp,tS g.c.rto])).run am w= .ok d w:=λw=>by rw[dP,xF]
    have A0:cj (R=bU d 7):=by unfold cj;rw[o.out,xt,<-xF];rfl
    have A1:cj (∀p:BW f,zP 188 #[ub #[tU m.sA m.ss.length m.sC,tU m.fA m.fs.length m.fC,tS g.c.nm,Z U g.c.par,tU g.c.varsA g.c.nvars g.c.varsC,ua g.c.rp,tS g.c.rto,Z U g.c.rcl,tU g.c.fromA g.c.nfrom g.c.fromC,tU g.c.insA g.c.ins.length g.c.insC],Z U i.a] p.w (ub #[ua ba,tS sa])):=λp=>by
     have:=iw m g i.a p.w (vx.out.below p.h).vars vx.out.nv vx.out.vl xp.out;rw[xt] at this;exact this
    have J:cj (∀p:BW f,jK p.w N m g):=λp=>jK.of (vu.out p.w p.h).1;have k0:∀p:BW f,p.w.cell? ⟨N,0,tM⟩=tG (tU m.sA m.ss.length m.sC):=λp=>(J.out p).1;have k1:∀p:BW f,p.w.cell? ⟨N,1,tM⟩=tG (tU m.fA m.fs.length m.fC):=λp=>(J.out p).2.1;have k2:∀p:BW f,p.w.cell? ⟨N,2,tM⟩=tG (tS g.c.nm):=λp=>(J.out p).2.2.1;have k3:∀p:BW f,p.w.cell? ⟨N,3,tM⟩=tG (Z U g.c.par):=λp=>(J.out p).2.2.2.1;have k4:∀p:BW f,p.w.cell? ⟨N,4,tM⟩=tG (tU g.c.varsA g.c.nvars g.c.varsC):=λp=>(J.out p).2.2.2.2.1;have k5:∀p:BW f,p.w.cell? ⟨N,5,tM⟩=tG (ua g.c.rp):=λp=>(J.out p).2.2.2.2.2.1;have k6:∀p:BW f,p.w.cell? ⟨N,6,tM⟩=tG (tS g.c.rto):=λp=>(J.out p).2.2.2.2.2.2.1;have k7:∀p:BW f,p.w.cell? ⟨N,7,tM⟩=tG (Z U g.c.rcl):=λp=>(J.out p).2.2.2.2.2.2.2.1;have k8:∀p:BW f,p.w.cell? ⟨N,8,tM⟩=tG (tU g.c.fromA g.c.nfrom g.c.fromC):=λp=>(J.out p).2.2.2.2.2.2.2.2.1;have k9:∀p:BW f,p.w.cell? ⟨N,9,tM⟩=tG (tU g.c.insA g.c.ins.length g.c.insC):=λp=>(J.out p).2.2.2.2.2.2.2.2.2;have Cp:∀p:BW f,p.w.cell? ⟨N+1,2,tM⟩=tG (Z U i.a):=λp=>by rw[bw _ _ _ _ _ _ (vu.out p.w p.h).2];rfl
    clear A xt xF o;go_wp2;refine zQ ?_
    repeat (go_big_quiet_step (first
     |(go_at_call 188;exact bE (A1.out _))
     |(go_at_call 99;exact eO (aD _ _ _))))
    refine dj ?_;rintro _ ⟨p,rfl⟩;go_wp2;go_ret;rw[A0.out,x.out];exact⟨rfl,up.out.trans (p.h.mono (by omega))⟩
   have CA:(i.op==18)=tR:=by rw[cT];exact vh
   have o:cj (R=ax m g.vs i):=by unfold cj;rw[A.out];unfold ek;rw[bx G,bx vd,bx vf,bx vh]
   have A2:cj (zP 189 #[ub (jg m g),ub i.cells] f (Z U (ax m g.vs i))):=
    qJ m g i f (by have:=A5.out;omega) ⟨vx.out,λh=>ux.out _ (by rw[HL.out];exact DI h),λh=>ux.out _ (by rw[HL.out];exact qf h),λh=>ux.out _ (by rw[HL.out];exact FR h),uv.out.kn⟩
   clear A G vd vf vh
   go_wp2_with (first
    |(refine cm rfl 184 _ rfl N rfl 184 (jg m g) (0,0) _ (E.out.1) cM rfl (by kernel_rfl) ?_)
    |(refine cm rfl 42 _ rfl (N+1) rfl 42 i.cells (0,0) _ (E.out.2) cD rfl (by kernel_rfl) ?_)
    |(go_at_call 189;refine A2.out.mono ?_;rintro e u ⟨rfl,z⟩;have vc:=zH z;clear z))
   go_ret;rw[o.out,x.out];exact⟨rfl,up.out.trans (vc.out.mono (by omega))⟩
 |false=>
  have e1:(az i).1=0:=by unfold az;rw[hd];rfl
  have e2:(az i).2=tR:=by unfold az;rw[hd];rfl
  rw[e1,e2] at yb;clear e1 e2
  go_upto_region 7 with(first
   |(go_at_call 183;refine(kN _ _).mono ?_;rintro e w2 ⟨rfl,we⟩;have vp:=zH (At.out.next we);have wg:cj (aE N w w2):=AF.out.trans (we.mono (by omega));clear we)
   |(refine cm rfl 42 _ rfl (N+1) rfl 42 i.cells (0,0) _ ((vp.out _ (aq _ _)).2) cD rfl (by kernel_rfl) ?_)
   |(refine cm rfl 42 _ rfl (N+1) rfl 42 i.cells (0,0) _ ((wj.out _ (aq _ _)).2) cD rfl (by kernel_rfl) ?_)
   |(go_at_call 144;refine(yk.out _ (by rw[x.out];exact wg.out)).mono ?_;rintro e w3 ⟨yp,yq,rfl,yr,wk⟩;have yv:=zH yr;have wj:=zH (vp.out.next wk);have yy:cj (aE N w w3):=wg.out.trans (wk.mono (by have:=vp.out.lt;omega));have BE:=wk.size;clear wk yr)
   |(go_at_call 142;refine(yb.out _).mono ?_;rintro e w5 ⟨rfl,vq⟩;have xj:=zH (wj.out.next vq);have ye:=zH (ownsRow_below yv.out vq);have xf:cj (aE N w w5):=yy.out.trans (vq.mono (by have:=wj.out.lt;omega));have BT:=vq.size;clear vq))
  have HL:cj (rs=readsOf i++(if qY i.op then[i.d] else[])):=by unfold cj;rw[hd,Ax.out];simp
  have wl:cj (zP 184 #[ub (jg m g),tU yp rs.length yq] w5 (ua (aP g.vs.length rs))):=
   qI m g yp rs yq w5 uv.out.j.nv (by have:=yd.out;unfold eC;omega) (aL.at_ ye.out)
  rw[<-HL.out] at vm;have B6:=zH hd;have BY:=vp.out.lt;have B5:w2.heap.size<=w5.heap.size:=by omega
  clear yv ye vp wj At wg yy yk yb yd Ax AH i0 hd;have xo:=zH (xj.out w5 (aq _ _));obtain⟨tb,ws⟩:=zE (aP g.vs.length rs);rw[ws] at wl;rw[ws] at vm;have zc:=zH ws;clear ws;cases tb with
  |false=>
   have o:cj (R=15):=vm.out
   go_wp2_with (first
    |(refine cm rfl 184 _ rfl N rfl 184 (jg m g) (0,0) _ (xo.out.1) cM rfl (by kernel_rfl) ?_)
    |(go_at_call 184;refine wl.out.mono ?_;rintro e f ⟨rfl,vr⟩;have vt:=zH vr;clear vr))
   go_ret;rw[o.out,x.out];exact⟨rfl,xf.out.trans (vt.out.mono (by omega))⟩
  |true=>
   have A:cj (R=ek m g i):=vm.out;clear vm
   go_upto_region 9 with(first
    |(refine cm rfl 184 _ rfl N rfl 184 (jg m g) (0,0) _ (xo.out.1) cM rfl (by kernel_rfl) ?_)
    |(go_at_call 184;refine wl.out.mono ?_;rintro e f ⟨rfl,vr⟩;have vt:=zH vr;clear vr))
   have vu:cj (jE f N m g i):=xj.out.next vt.out
   have up:cj (aE N w f):=xf.out.trans (vt.out.mono (by omega));have B7:=vu.out.lt;have E:=zH (vu.out f (aq _ _));have vx:cj (oQ f m g):=uv.out.j.below (by rw[x.out];exact up.out);have z0:=zR E.out.2 0 (Z U i.op);have z2:=zR E.out.2 2 (Z U i.a);have z9:=zR E.out.2 9 (Z U i.tI);have zj:=zR E.out.2 10 (Z U i.els);have ux:cj (∀v∈rs,isVar g.vs.length v=tP):=λv hv=>wI zc.out hv;clear xj wl vt xf xo zc
   by_cases G:i.op=15
   ·have o:cj (R=iL m g.vs i):=by unfold cj;rw[A.out];exact cI G
    have AK:cj (zP 185 #[ub (jg m g),ub i.cells] f (Z U (iL m g.vs i))):=
     sU m g i f vx.out (uv.out.ar.below (by rw[x.out];exact up.out)) (by have:=uv.out.al;unfold eC;omega) (ux.out _ (by rw[HL.out];exact DI (by rw[G];rfl))) (λa ha=>ux.out a (by rw[HL.out];exact wJ G ha))
    rw[G] at z0;clear A
    go_wp2_with (first
     |(refine cm rfl 184 _ rfl N rfl 184 (jg m g) (0,0) _ (E.out.1) cM rfl (by kernel_rfl) ?_)
     |(refine cm rfl 42 _ rfl (N+1) rfl 42 i.cells (0,0) _ (E.out.2) cD rfl (by kernel_rfl) ?_)
     |(go_at_call 185;refine AK.out.mono ?_;rintro e u ⟨rfl,z⟩;have vc:=zH z;clear z))
    go_ret;rw[o.out,x.out];exact⟨rfl,up.out.trans (vc.out.mono (by omega))⟩
   have B8:(i.op==15)=tR:=by rw[cT];exact G
   by_cases vd:i.op=16
   ·have o:cj (R=bU (isVar g.c.ins.length i.tI) 15):=by unfold cj;rw[A.out];unfold ek;rw[bx G,cI vd]
    rw[vd] at z0;clear A
    go_wp2_with (first
     |(refine cm rfl 184 _ rfl N rfl 184 (jg m g) (0,0) _ (E.out.1) cM rfl (by kernel_rfl) ?_)
     |(go_at_call 186;refine(iB m g i.tI f).mono ?_;rintro e u ⟨rfl,z⟩;have vc:=zH z;clear z)
     |(go_at_call 99;refine(aD _ _ _).mono ?_;rintro e w8 ⟨rfl,rfl⟩))
    go_ret;rw[o.out,x.out];exact⟨rfl,up.out.trans (vc.out.mono (by omega))⟩
   have B9:(i.op==16)=tR:=by rw[cT];exact vd
   by_cases vf:i.op=17
   ·have o:cj (R=if isVar g.c.ins.length i.tI&&isVar g.c.ins.length i.els then eD g.vs [i.a] else 15):=by unfold cj;rw[A.out];unfold ek;rw[bx G,bx vd,cI vf]
    have xp:cj (isVar g.vs.length i.a=tP):=ux.out _ (by rw[HL.out];exact qf (by rw[vf];rfl));rw[vf] at z0;obtain⟨t1,AM⟩:=zE (isVar g.c.ins.length i.tI);obtain⟨t2,AN⟩:=zE (isVar g.c.ins.length i.els);rw[AM,AN] at o;clear A;cases t1 with
    |false=>
     go_wp2_with (first
      |(refine cm rfl 184 _ rfl N rfl 184 (jg m g) (0,0) _ (E.out.1) cM rfl (by kernel_rfl) ?_)
      |(go_at_call 186;refine(iB m g _ _).mono ?_;rintro e u ⟨rfl,z⟩;have vc:=zH z;clear z))
     go_ret;rw[o.out,x.out];exact⟨rfl,up.out.trans (vc.out.mono (by omega))⟩
    |true=>
     have zp:cj (∀(W:World)(v:aw),jE W N m g i->aE N w W->ge am 186 #[ub (jg m g),Z U v] W λe w'=>e= ud (ua (isVar g.c.ins.length v))/\jE w' N m g i/\aE N w w'):=λW v K hB=>(iB m g v W).mono (by
      rintro e w' ⟨rfl,hb⟩;exact⟨rfl,K.next hb,hB.trans (hb.mono (by have:=K.lt;omega))⟩)
     have ue:=vu;have ur:=up;cases t2 with
     |false=>
      go_wp2_with (first
       |(refine cm rfl 184 _ rfl N rfl 184 (jg m g) (0,0) _ ((ue.out _ (aq _ _)).1) cM rfl (by kernel_rfl) ?_)
       |(go_at_call 186;refine(zp.out _ _ ue.out ur.out).mono ?_;clear ue ur;rintro e u ⟨rfl,y,vy⟩;have AS:=y.lt;obtain⟨y0,y1,y2,y3,y4,y5,y6,y7,y8,y9⟩:=jK.of (y u (aq _ _)).1;have zj:u.cell? ⟨N+1,10,tM⟩=tG (Z U i.els):=bw _ _ _ _ _ _ (y u (aq _ _)).2;have ue:=zH y;have ur:=zH vy;clear y vy))
      go_ret;rw[o.out,x.out];exact⟨rfl,ur.out⟩
     |true=>
      have AT:cj (∀(W:World),jE W N m g i->aE N w W->ge am 187 #[ub (jg m g),tU (tG ⟨W.heap.size,0,tM⟩) 1 1] (W.alloc (uc #[Z U i.a] 3)) λe w'=>e= ud (Z U (eD g.vs [i.a]))/\aE N w w'):=by
       intro W K hB;have zs:aE N w (W.alloc (uc #[Z U i.a] 3)):=hB.alloc (by have:=K.lt;omega) _;have hj:=uv.out.j.below (by rw[x.out];exact zs);refine(dB m g (tG ⟨W.heap.size,0,tM⟩) [i.a] 1 (W.alloc (uc #[Z U i.a] 3)) hj.vars hj.nv hj.vl (by unfold eC;simp) Al (by simp;exact xp.out)).mono ?_;rintro e w' ⟨rfl,hb⟩;exact⟨rfl,zs.trans (hb.mono (by have:=K.lt;simp;omega))⟩
      go_wp2_with (first
       |(refine cm rfl 184 _ rfl N rfl 184 (jg m g) (0,0) _ ((ue.out _ (aq _ _)).1) cM rfl (by kernel_rfl) ?_)
       |(go_at_call 186;refine(zp.out _ _ ue.out ur.out).mono ?_;clear ue ur;rintro e u ⟨rfl,y,vy⟩;have AS:=y.lt;obtain⟨y0,y1,y2,y3,y4,y5,y6,y7,y8,y9⟩:=jK.of (y u (aq _ _)).1;have zj:u.cell? ⟨N+1,10,tM⟩=tG (Z U i.els):=bw _ _ _ _ _ _ (y u (aq _ _)).2;have z2:u.cell? ⟨N+1,2,tM⟩=tG (Z U i.a):=bw _ _ _ _ _ _ (y u (aq _ _)).2;have ue:=zH y;have ur:=zH vy;clear y vy)
       |(go_at_call 187;refine(AT.out _ ue.out ur.out).mono ?_;rintro e w9 ⟨rfl,zv⟩;have AW:=zH zv;clear zv))
      go_ret;rw[o.out,x.out];exact⟨rfl,AW.out⟩
   have Cd:(i.op==17)=tR:=by rw[cT];exact vf
   by_cases vh:i.op=18
   ·have o:cj (R=bU (ay g.vs i.a==g.ret) 7):=by unfold cj;rw[A.out];unfold ek;rw[bx G,bx vd,bx vf,cI vh]
    have xp:cj (isVar g.vs.length i.a=tP):=ux.out _ (by rw[HL.out];exact qf (by rw[vh];rfl));rw[vh] at z0;obtain⟨⟨ba,sa⟩,xt⟩:∃t,ay g.vs i.a=t:=⟨_,rfl⟩
    obtain⟨d,xF⟩:=zE (((ba,sa):Ty)==(g.c.rp,g.c.rto));have Cl:∀w,(gE 10000 32 (ub #[ua ba,tS sa]) (ub #[ua g.c.rp,tS g.c.rto])).run am w= .ok d w:=λw=>by rw[dP,xF]
    have A0:cj (R=bU d 7):=by unfold cj;rw[o.out,xt,<-xF];rfl
    have A1:cj (∀p:BW f,zP 188 #[ub #[tU m.sA m.ss.length m.sC,tU m.fA m.fs.length m.fC,tS g.c.nm,Z U g.c.par,tU g.c.varsA g.c.nvars g.c.varsC,ua g.c.rp,tS g.c.rto,Z U g.c.rcl,tU g.c.fromA g.c.nfrom g.c.fromC,tU g.c.insA g.c.ins.length g.c.insC],Z U i.a] p.w (ub #[ua ba,tS sa])):=λp=>by
     have:=iw m g i.a p.w (vx.out.below p.h).vars vx.out.nv vx.out.vl xp.out;rw[xt] at this;exact this
    have J:cj (∀p:BW f,jK p.w N m g):=λp=>jK.of (vu.out p.w p.h).1;have k0:∀p:BW f,p.w.cell? ⟨N,0,tM⟩=tG (tU m.sA m.ss.length m.sC):=λp=>(J.out p).1;have k1:∀p:BW f,p.w.cell? ⟨N,1,tM⟩=tG (tU m.fA m.fs.length m.fC):=λp=>(J.out p).2.1;have k2:∀p:BW f,p.w.cell? ⟨N,2,tM⟩=tG (tS g.c.nm):=λp=>(J.out p).2.2.1;have k3:∀p:BW f,p.w.cell? ⟨N,3,tM⟩=tG (Z U g.c.par):=λp=>(J.out p).2.2.2.1;have k4:∀p:BW f,p.w.cell? ⟨N,4,tM⟩=tG (tU g.c.varsA g.c.nvars g.c.varsC):=λp=>(J.out p).2.2.2.2.1;have k5:∀p:BW f,p.w.cell? ⟨N,5,tM⟩=tG (ua g.c.rp):=λp=>(J.out p).2.2.2.2.2.1;have k6:∀p:BW f,p.w.cell? ⟨N,6,tM⟩=tG (tS g.c.rto):=λp=>(J.out p).2.2.2.2.2.2.1;have k7:∀p:BW f,p.w.cell? ⟨N,7,tM⟩=tG (Z U g.c.rcl):=λp=>(J.out p).2.2.2.2.2.2.2.1;have k8:∀p:BW f,p.w.cell? ⟨N,8,tM⟩=tG (tU g.c.fromA g.c.nfrom g.c.fromC):=λp=>(J.out p).2.2.2.2.2.2.2.2.1;have k9:∀p:BW f,p.w.cell? ⟨N,9,tM⟩=tG (tU g.c.insA g.c.ins.length g.c.insC):=λp=>(J.out p).2.2.2.2.2.2.2.2.2;have Cp:∀p:BW f,p.w.cell? ⟨N+1,2,tM⟩=tG (Z U i.a):=λp=>by rw[bw _ _ _ _ _ _ (vu.out p.w p.h).2];rfl
    clear A xt xF o;go_wp2;refine zQ ?_
    repeat (go_big_quiet_step (first
     |(go_at_call 188;exact bE (A1.out _))
     |(go_at_call 99;exact eO (aD _ _ _))))
    refine dj ?_;rintro _ ⟨p,rfl⟩;go_wp2;go_ret;rw[A0.out,x.out];exact⟨rfl,up.out.trans (p.h.mono (by omega))⟩
   have CA:(i.op==18)=tR:=by rw[cT];exact vh
   have o:cj (R=ax m g.vs i):=by unfold cj;rw[A.out];unfold ek;rw[bx G,bx vd,bx vf,bx vh]
   have A2:cj (zP 189 #[ub (jg m g),ub i.cells] f (Z U (ax m g.vs i))):=
    qJ m g i f (by have:=A5.out;omega) ⟨vx.out,λh=>ux.out _ (by rw[HL.out];exact DI h),λh=>ux.out _ (by rw[HL.out];exact qf h),λh=>ux.out _ (by rw[HL.out];exact FR h),uv.out.kn⟩
   clear A G vd vf vh
   go_wp2_with (first
    |(refine cm rfl 184 _ rfl N rfl 184 (jg m g) (0,0) _ (E.out.1) cM rfl (by kernel_rfl) ?_)
    |(refine cm rfl 42 _ rfl (N+1) rfl 42 i.cells (0,0) _ (E.out.2) cD rfl (by kernel_rfl) ?_)
    |(go_at_call 189;refine A2.out.mono ?_;rintro e u ⟨rfl,z⟩;have vc:=zH z;clear z))
   go_ret;rw[o.out,x.out];exact⟨rfl,up.out.trans (vc.out.mono (by omega))⟩
theorem kw {α:Type}{f:α->aw}:∀{l:bj α}{j:bh}{x:α},(∀y∈l.take j,f y=0)->l[j]?=tG x->f x≠0->aV f l=f x
 |[],j,x,_,h,_=>by simp at h
 |y::r,0,x,_,h,d=>by
  simp at h;subst h;unfold aV;rw[bx d]
 |y::r,j+1,x,e,h,d=>by
  unfold aV;rw[cI (e y (by simp))];exact kw (j:=j) (λz g=>e z (by simp[g])) (by simpa using h) d
theorem iM {α:Type}{f:α->aw}:∀{l:bj α},(∀y∈l,f y=0)->aV f l=0
 |[],_=>rfl
 |y::r,h=>by
  unfold aV;rw[cI (h y (by simp))];exact iM λz d=>h z (by simp[d])
theorem nz {i:Ins}(h:i.ok):(i.cells.all λx=>x.oneCell')=tP:=by
 obtain⟨⟨ao,cap,d⟩,f,n2,g,e⟩:=h;rw[<-ly];simp[Ins.cells,ct,d,e]
structure Ip (w:World)(m:Mo)(g:Fn):Prop where
 mo:m.inn w
 fn:g.inn w
 al:∀i∈g.c.ins,i.args.length<=40
 kn:∀v,isVar g.vs.length v=tP->m.known (ay g.vs v)=tP
theorem Cw (m:Mo)(g:Fn)(w:World)(h:Ip w m g):
  zP 97 #[ub (jg m g)] w (Z U (codeF m g)):=by
 have wg:cj (∀i∈g.c.ins,∀W,aE w.heap.size w W->zP 136 #[ub (jg m g),ub i.cells] W (Z U (aF m g i))):=λi hi W hW=>
  Ao m g i W ⟨(Cu h.mo h.fn).below hW,(h.fn.code.args i hi).below hW,h.al i hi,h.kn⟩
 have vr:=zH h.fn.code.row;have wj:cj (∀i∈g.c.ins,i.ok):=λi hi=>(h.fn.code.args i hi).1;have vt:=h.fn.nvars;have wk:=(Cu h.mo h.fn).vl;unfold eC at wk;obtain⟨R,hR⟩:=zE (codeF m g);have o:cj (R=if 300<g.vs.length\/g.c.ins.length<1\/3000<g.c.ins.length then 2
  else if g.c.par<0\/(g.vs.length:aw)<g.c.par then 15
  else if aV (aF m g) g.c.ins≠0 then aV (aF m g) g.c.ins
  else bU (match g.c.ins.getLast? with
   |some i=>decide (16<=i.op)
   |none=>tR) 15):=hR.symm
 rw[hR];clear h hR;obtain⟨N,hN⟩:=zE w.heap.size;obtain⟨W1,uv⟩:=zE (w.alloc (uc (jg m g) 184));have vu:=iR uv hN;have wl:W1.heap.size=N+1:=by rw[<-uv];simp[hN]
 have E:W1.heap[N]?=tG (uc (jg m g) 184 (0,0)):=by rw[<-uv,<-hN];exact alloc_at _ _
 have q3:=zR E 3 (Z U g.c.par);have q4:W1.cell? ⟨N,4,tM⟩=tG (tU g.c.varsA g.vs.length g.c.varsC):=by rw[bw _ _ _ _ _ _ E,<-vt];rfl
 have q9:=zR E 9 (tU g.c.insA g.c.ins.length g.c.insC);have v:=zH vu;have t:=zH hN;have ws:=zH E;have xp:=zH wl;have xf:N<W1.heap.size:=by omega
 clear vu E vt
 by_cases c1:300<g.vs.length
 ·have d:cj (R=2):=by unfold cj;rw[o.out,cI (.inl c1)]
  clear o;go_enter oY,n4;go_wp2;go_ret;rw[d.out]
  try rw[t.out]
  exact⟨rfl,v.out⟩
 by_cases c2:g.c.ins.length<1
 ·have d:cj (R=2):=by unfold cj;rw[o.out,cI (.inr (.inl c2))]
  clear o;go_enter oY,n4;go_wp2;go_ret;rw[d.out]
  try rw[t.out]
  exact⟨rfl,v.out⟩
 by_cases c3:3000<g.c.ins.length
 ·have d:cj (R=2):=by unfold cj;rw[o.out,cI (.inr (.inr c3))]
  clear o;go_enter oY,n4;go_wp2;go_ret;rw[d.out]
  try rw[t.out]
  exact⟨rfl,v.out⟩
 by_cases c4:g.c.par<0
 ·have d:cj (R=15):=by unfold cj;rw[o.out,bx (by omega),cI (.inl c4)]
  clear o;go_enter oY,n4;go_wp2;go_ret;rw[d.out]
  try rw[t.out]
  exact⟨rfl,v.out⟩
 by_cases c5:(g.vs.length:aw)<g.c.par
 ·have d:cj (R=15):=by unfold cj;rw[o.out,bx (by omega),cI (.inr c5)]
  clear o;go_enter oY,n4;go_wp2;go_ret;rw[d.out]
  try rw[t.out]
  exact⟨rfl,v.out⟩
 have ux:cj (R=if aV (aF m g) g.c.ins≠0 then aV (aF m g) g.c.ins
  else bU (match g.c.ins.getLast? with
   |some i=>decide (16<=i.op)
   |none=>tR) 15):=by unfold cj;rw[o.out,bx (by omega),bx (by omega)]
 clear o;go_enter oY,n4
 go_upto_region 8 with(refine cm rfl 184 _ rfl N rfl 184 (jg m g) (0,0) _ ws.out cM rfl (by kernel_rfl) ?_)
 go_loopw [47] (λc wr=>∃j:bh,j<=g.c.ins.length/\c= Z U (j:aw)/\(∀x∈g.c.ins.take j,aF m g x=0)/\aE W1.heap.size W1 wr) (λc _=>g.c.ins.length-(de c).toNat)
 case atStart=>exact⟨0,cN _,rfl,by simp,aq _ _⟩
 case round=>
  obtain⟨j,hj,rfl,G,y⟩:=hrel;have HB:=zH y;have HZ:=zH G;have ue:cj (aE N w wr):=v.out.trans (y.mono (by omega))
  by_cases vc:j<g.c.ins.length
  ·obtain⟨i,hi⟩:∃i,g.c.ins[j]?=tG i:=⟨_,ap vc⟩
   have vd:=cd hi;obtain⟨q,A,hA,vx,J⟩:=vr.out (by intro e;rw[e] at vc;simp at vc);have vf:q<N:=by omega
   have vy:cj (∀k u,i.cells.toList[k]?=tG u->wr.cell? ((⟨q,A+j*13,tM⟩:fS).add k)=tG u):=λk u hu=>by
    rw[cY,ue.out.cell (p:=⟨q,_,tM⟩) vf];exact J j i hi k u hu
   have hst:∀(c:eA cA),c.size=13->(dt ⟨wr.heap.size,0,tM⟩ i.cells.toList 0).run am (wr.alloc (uc c 42))= .ok () (wr.alloc (uc i.cells 42)):=λc hc=>
    cx (P:=am) wr 42 c i.cells (by show _=tG 13;kernel_rfl) hc (nz (wj.out i vd))
   have we:cj ((wr.alloc (uc i.cells 42)).heap[wr.heap.size]?=tG (uc i.cells 42 (0,0))):=alloc_at _ _;have xj:cj (aE N w (wr.alloc (uc i.cells 42))):=ue.out.alloc (by have:=HB.out.size;omega) _;have up:cj (aE W1.heap.size W1 (wr.alloc (uc i.cells 42))):=HB.out.alloc HB.out.size _;have vh:cj (zP 136 #[ub (jg m g),ub i.cells] (wr.alloc (uc i.cells 42)) (Z U (aF m g i))):=wg.out i vd _ (by rw[t.out];exact xj.out);have xt:(j:aw)<(g.c.ins.length:aw):=by omega
   have HI:=zH hi;obtain⟨z,vm⟩:=zE (aF m g i);rw[vm] at vh;have vp:=zH vm;rw[hA];clear G y hi vd vx J vm
   by_cases ur:z=0
   ·subst ur
    go_wp2_with (first
     |(refine au rfl 42 _ rfl ⟨q,A+j*13,tM⟩ rfl i.cells _ vy.out cD rfl (by kernel_rfl) ?_)
     |(refine cm rfl 42 _ rfl wr.heap.size rfl 42 i.cells (0,0) _ we.out cD rfl (by kernel_rfl) ?_)
     |(go_at_call 136;refine vh.out.mono ?_;rintro e w3 ⟨rfl,K⟩;have vq:cj (aE W1.heap.size W1 w3):=up.out.trans (K.mono up.out.size);clear K))
    go_roundw
    case rel=>exact⟨j+1,by omega,by go_num,dL (p:=λx=>aF m g x=0) HZ.out HI.out vp.out,vq.out⟩
    case measure=>simp[de];omega
   ·have d:cj (R=z):=by
     unfold cj;have e:=kw (f:=aF m g) HZ.out HI.out (by rw[vp.out];exact ur);rw[ux.out,e,vp.out,cI ur]
    have xF:(z==0)=tR:=by rw[cT];exact ur
    go_wp2_with (first
     |(refine au rfl 42 _ rfl ⟨q,A+j*13,tM⟩ rfl i.cells _ vy.out cD rfl (by kernel_rfl) ?_)
     |(refine cm rfl 42 _ rfl wr.heap.size rfl 42 i.cells (0,0) _ we.out cD rfl (by kernel_rfl) ?_)
     |(go_at_call 136;refine vh.out.mono ?_;rintro e w3 ⟨rfl,K⟩;have vq:cj (aE W1.heap.size W1 w3):=up.out.trans (K.mono up.out.size);clear K))
    go_ret;rw[d.out]
    try rw[t.out]
    exact⟨rfl,v.out.trans (vq.out.mono (by omega))⟩
  ·have xo:j=g.c.ins.length:=by omega
   subst xo;rw[cR] at G;obtain⟨i,hi⟩:∃i,g.c.ins[g.c.ins.length-1]?=tG i:=⟨_,ap (by omega)⟩
   have d:cj (R=bU (decide (16<=i.op)) 15):=by
    unfold cj;rw[ux.out,iM G,bx (by simp),List.getLast?_eq_getElem?,hi]
   obtain⟨q,A,hA,vx,J⟩:=vr.out (by intro e;rw[e] at hi;simp at hi);have vf:q<N:=by omega
   obtain⟨L,hL⟩:∃L,g.c.ins.length=L+1:=⟨g.c.ins.length-1,by omega⟩
   have hd:wr.cell? ⟨q,A+L*13,tM⟩=tG (Z U i.op):=by
    rw[ue.out.cell (p:=⟨q,_,tM⟩) vf];rw[hL,Nat.add_sub_cancel] at hi;exact J L i hi 0 _ rfl
   have xT:wr.cell? ⟨N,9,tM⟩=tG (tU (tG ⟨q,A,tM⟩) (L+1) g.c.insC):=by rw[y.cell (p:=⟨N,9,tM⟩) xf,<-hA,<-hL];exact q9
   have yb:q<wr.heap.size:=by have:=y.size;omega
   have yd:N<wr.heap.size:=by have:=y.size;omega
   have ye:((L+1:bh):aw)-1=(L:aw):=by omega
   have yi:L<=3000:=by omega
   clear G y hi ux J q9;rw[hL]
   go_wp2_with (go_at_call 99;refine(aD _ _ _).mono ?_;rintro e w8 ⟨rfl,rfl⟩)
   go_ret;rw[d.out]
   try rw[t.out]
   exact⟨rfl,ue.out⟩
section
open Go.RowKit Go.Maps
theorem qK:Keyed am 9:=string_keyed iv
theorem Eo (w:World):(zeroValue 4).run am w= .ok (ua tR) w:=by kernel_rfl
theorem rf {P:lr}{e:gt}(d:P.underlying e=tG .bool){v:cA}{z:DataW Unit×bj n9}(h:rI P e v=tG z):∃x,v= .bool x/\z=(.lit (.bool x),[]):=by
 unfold rI at h;rw[d] at h;cases v<;>simp at h;exact⟨_,rfl,h.symm⟩
def rq (w:World)(B n:bh)(S:bj bm):Prop:=∃D:DataW Unit,w.ownsMap am 9 (rI am 4) B n D/\IsMap D/\
 ∀x:bm,D.atKey (.string x.data.toList) (.lit (.bool tR))= .lit (.bool (decide (x∈S)))
theorem rq.made (w:World):rq (w.alloc (.map #[] 0)) w.heap.size 0 []:=
 ⟨.map [],World.ownsMap_made _ _ _ _,isMap_empty,λx=>by simp[DataW.atKey]⟩
theorem rq.lt {w:World}{B n:bh}{S:bj bm}(h:rq w B n S):B<w.heap.size:=by
 obtain⟨D,d,e⟩:=h;exact d.lt
theorem rq.look {w:World}{B n:bh}{S:bj bm}(h:rq w B n S){x:bm}(e:x.size<=eC):
  (nr 283 (.map (tG B)) (.string x) tR).run am w= .ok (.bool (decide (x∈S))) w:=by
 obtain⟨D,f,q,g⟩:=h;obtain⟨v,t,j,o⟩:=f.lookup qK underlying283 (Eo w) (plainElem_bool nj tR) (tm iv e);obtain⟨y,rfl,d⟩:=rf nj o;rw[g x] at d;simp only[qs,DataW.lit.injEq,Lit.bool.injEq] at d;rw[j,<-d.1]
theorem rq.add {w:World}{B n:bh}{S:bj bm}(h:rq w B n S){x:bm}(f:x.size<=eC)(g:n<eC):
  ∃w',(Instr.mapUpdate 283 (.map (tG B)) (.string x) (.bool tP)).run am w= .ok () w'/\rq w' B (n+1) (x::S)/\Ext (·=B) w w':=by
 obtain⟨D,j,d,o⟩:=h;obtain⟨w',q,r1,r2⟩:=j.update qK underlying283 g (tm iv f) (plainElem_bool nj tP);refine⟨w',q,⟨_,r1,d.put _ _,λy=> ?_⟩,Ext.of_grown r2 (λk t=> .inl (by simpa using t.symm))⟩
 by_cases e:y=x
 ·subst e
  rw[atKey_put_same d (by simp[WideAt.IsKeyLit])];simp
 ·rw[atKey_put_other (Ih e),o y];simp[e]
end
section
open Go.RowKit Go.Maps
theorem Ap:(am.info? 9).map (λi=>(i.zero,i.size,i.bytes))=tG (tG (tS ⟨#[]⟩),1,16):=by kernel_rfl
def gM (w:World)(base:bh)(v:cA)(xs:bj bm):Prop:=w.ownsRow base 9 1 v xs.length (xs.map fz)
theorem gM.nil (w:World)(base:bh):gM w base (tU tM 0 0) []:=World.ownsRow_nil _ _ _ _
theorem gM.isSlice {w:World}{base:bh}{v:cA}{xs:bj bm}(h:gM w base v xs):∃ao cap,v= tU ao xs.length cap:=by
 rcases h.2 with⟨d,e⟩|⟨g,cap,f,d,_⟩
 ·exact⟨tM,0,by rw[e];exact d⟩
 ·exact⟨_,_,d⟩
theorem gM.at_ {w:World}{base n cap:bh}{ao:cG fS}{xs:bj bm}(h:gM w base (tU ao n cap) xs):aW w ao xs:=by
 intro t;rcases h.2 with⟨d,f⟩|⟨g,x,j,d,f,o,y,A,E,u⟩
 ·exact fL (dr f) t
 ·have v:ao=tG ⟨g,0,tM⟩:=by simp only[fm] at d;exact d.1
  refine⟨g,0,v,(br.1 o).1,λk z q=> ?_⟩;rw[cL,bw w g k j _ _ o];have G:k<xs.length:=(bl.1 q).1;have e:(j.toList.take (xs.length*1))[k]?=tG (tS z):=by rw[u];simp[q]
  rw[mz,cI (by omega)] at e;simpa using e
theorem gM.below {w w':World}{base:bh}{v:cA}{xs:bj bm}(h:gM w base v xs)(d:aE w.heap.size w w'):gM w' base v xs:=ownsRow_below h d
theorem gY {w:World}{ops:eA mS}{rest:bj mS}{o:mS}{a:Act}{Q:Exit->Act->World->Prop}(t:o.guard=tM)(s x:tE)
  (y:o.op= .call {callee:= .builtin .append,args:=#[s,x],argTypes:=#[223,223]})(base:bh)(v:cA)(xs:bj bm)(A:a.eval s=v)(E:gM w base v xs)
  (e:fS)(z:bm)(c:bh)(G:a.eval x= tU (tG e) 1 c)(J:w.cell? e=tG (tS z))(uv:xs.length<=90000)(K:base<=w.heap.size)
  (h:∀d w',gM w' base d (xs++[z])->w.grownBy w' v.ownBlock->pZ am ops Q rest (a.put o.dst d) w'):pZ am ops Q (o::rest) a w:=by
 obtain⟨R,hi,ue,up,ur⟩:=kB Ap;have hh:∀d w',w'.ownsRow base 9 1 d (xs.length+1) (xs.map fz++[tS z])->w.grownBy w' v.ownBlock->pZ am ops Q rest (a.put o.dst d) w':=λd w' f g=>h d w' (by unfold gM;simpa using f) g;refine wpList_append_own _ t s x 223 y base 9 R (tS ⟨#[]⟩) 1 16 rg hi ue up ur rfl (by decide) v xs.length _ A E e 1 c [tS z] G (by simp) (λj u q=> ?_) (by simp;rfl) (by unfold eC;omega) (by omega) K (λd w' f g _=>hh d w' f g);have:j<1:=(bl.1 q).1;obtain rfl:j=0:=by omega
 simp at q;subst q;obtain⟨b,o,s⟩:=e;simpa[Addr.add] using J
theorem Cx {xs:bj bm}{j:bh}{y:bm}(h:(xs.take j).Nodup)(e:xs[j]?=tG y)(f:y∉xs.take j):(xs.take (j+1)).Nodup:=by
 rw[aH e,pn];exact⟨h,by simp,by intro a g b d;simp at d;subst d;rintro rfl;exact f g⟩
theorem Ep {xs:bj bm}{j:bh}{y:bm}(e:xs[j]?=tG y)(f:y∈xs.take j):¬xs.Nodup:=by
 intro h;have d:(xs.take (j+1)).Nodup:=h.sublist (List.take_sublist _ _);rw[aH e,pn] at d;exact d.2.2 y f y (by simp) rfl
theorem jT (w:World)(c:bh)(ao:cG fS)(xs:bj bm)(hn:xs.length<=90000)(up:∀x∈xs,x.size<=eC)(h:aW w ao xs):
  zP 133 #[tU ao xs.length c] w (ua (decide (¬xs.Nodup))):=by
 have we:=@run_makeMap am;have H:=zH h;have vd:=zH up;obtain⟨N,t⟩:=zE w.heap.size;obtain⟨W1,ur⟩:=zE (w.alloc (.map #[] 0));have uv:=iR ur t;have vf:cj (rq W1 N 0 []):=by rw[<-ur,<-t];exact rq.made w
 have vh:=zH uv;have u:=zH t;obtain⟨R,v⟩:=zE (decide (¬xs.Nodup));rw[v];have HR:=zH v;clear h up uv v;go_enter func133,ntmps133
 go_wp2_with fail
 go_loopw [9] (λc wr=>∃(j:bh) (S:bj bm),j<=xs.length/\c= Z U (j:aw)/\rq wr N j S/\(∀z,z∈S↔z∈xs.take j)/\(xs.take j).Nodup/\aE N w wr) (λc _=>xs.length-(de c).toNat)
 case atStart=>exact⟨0,[],cN _,rfl,vf.out,by simp,by simp,vh.out⟩
 case round=>
  obtain⟨j,S,hj,rfl,f,A,g,o⟩:=hrel;have E:=zH o;have vm:=zH g;have G:=zH A
  by_cases J:j<xs.length
  ·obtain⟨y,q⟩:∃y,xs[j]?=tG y:=⟨_,ap J⟩
   obtain⟨g1,vp,rfl,wg,q1⟩:=(H.out.below (by rw[u.out];exact o)) (by intro e;rw[e] at J;simp at J)
   have d1:wr.cell? ⟨g1,vp+j,tM⟩=tG (tS y):=q1 j y q;have K:=vd.out y (cd q);have wj:(j:aw)<(xs.length:aw):=by omega
   have vq:=f.look K;obtain⟨w2,wk,ux,vc⟩:=f.add K (show j<eC by unfold eC;omega);obtain⟨d,hd⟩:=zE (decide (y∈S));rw[hd] at vq;have HD:=zH hd;have HY:=zH q;have vr:=zH ux;have vt:=zH vc;have wl:=f.lt;clear f A g o q q1 K hd ux vc;cases d with
   |true=>
    have ue:cj (R=tP):=by
     unfold cj;rw[<-HR.out];exact cV (Ep HY.out ((G.out y).1 (m7 HD.out)))
    go_wp2;go_ret;rw[ue.out]
    try rw[u.out]
    exact⟨rfl,E.out⟩
   |false=>
    go_wp2;go_roundw
    case rel=>
     have vu:y∉xs.take j:=λh=>of_decide_eq_false HD.out ((G.out y).2 h);refine⟨j+1,y::S,by omega,by go_num,vr.out,λz=> ?_,Cx vm.out HY.out vu, ?_⟩
     ·rw[aH HY.out,gh,cX,G.out z,cU,or_comm]
     ·have vx:Ext (N<=·) wr w2:=vt.out.mono (λk hk=>by show N<=k;omega)
      exact E.out.trans (vx.below (by omega) (λk hk=>hk))
    case measure=>simp[de];omega
  ·have vy:j=xs.length:=by omega
   subst vy;have ue:cj (R=tR):=by
    unfold cj;rw[cR] at g;rw[<-HR.out];exact cv (by simpa using g)
   clear f A g o;go_wp2;go_ret;rw[ue.out]
   try rw[u.out]
   exact⟨rfl,E.out⟩
end
end Go.Proofs.YtjomgckjhcfbgaaGreat
