/- Walks. -/
import Derived.Deep.WholeRow
import Derived.Maps.OwnOps
import Derived.Maps.Views
import Derived.Laws.OwnMore
import Derived.Test.YtjomgckjhcfbgaaGreatY8
set_option maxRecDepth 100000
set_option maxHeartbeats 64000000
set_option linter.all false
namespace Go.Proofs.YtjomgckjhcfbgaaGreat
open Go.RowKit
open Go.Proofs.Tryz renaming prog→ac,underlying184→cI,underlying42→cJ,ntmps189→eV,func189→fx,underlying4→ii,underlying9→im,ntmps97→np,func97→oB,underlying223→qS
open _root_.List renaming getElem?_eq_getElem→am,getElem?_eq_some_iff→ap,setIfInBounds_toArray→aw,set_cons_zero→bt,set_cons_succ→bw,mem_of_getElem?→cf,getElem_cons_zero→cy,getElem_cons_succ→cA,getElem_toArray→cC,mem_singleton→cH,mem_append→cT,take_length→de,eq_nil_of_length_eq_zero→du,mem_cons→fy,all_eq_true→js,nodup_append→lj,getElem?_eq_none→my,getElem?_take→pS
open Go.RowKit.Below renaming refl→aq,mono→pw
open _root_ renaming ByteArray→aE,List→bm,Int→bp,Nat→bx,if_neg→cE,decide_eq_false→cL,if_pos→cR,Array→da,beq_eq_false_iff_ne→dp,decide_eq_true→ef,Option→eA,absurd→fW,Bool→nj,of_decide_eq_true→qe
open Go.RowKit renaming Below→bh,Hid→cm
open _root_.Array renaming getElem?_eq_some_iff→bj,all_toList→ld
open Go renaming cell_of_row→cc,Value→cd,wpList_load_row→ci,run_storeCells_new→ct,storeCells→dr,maxLen→dT,wpQuiet_nil→eh,beq_toListBytes→fY,Calls→gd,TypeId→gx,info_parts→gA,Oper→ke,yielded→kj,Program→km,wpAnyH_ready→kO,plainElem→mw,MemPlace→od,plainElem_bool→rk,wpList→sL
open _root_.Nat renaming le_refl→ce,zero_le→cN,zero_add→cV
open Go.Value renaming oneCell'→cj,int→eE,string→fh,string→tM,slice→tP,pointer→tR,bool→tU,agg→tW,int→Z
open _root_.Int renaming toNat_natCast→cP
open _root_.Prod.mk renaming injEq→cU
open Go.Addr renaming add_lit→dc
open Go.Region renaming ready→dd,wanted→eC,noSelect→fi,Mode→gO,free→kB
open Go.Act renaming put→dk
open Go.AllReadyH renaming cons→gh,nil→iS
open Go.Value.slice renaming injEq→gj
open Go.Instr renaming lookup→gC,mapUpdate→oE
open Go.Op renaming equalIn→gE
open Go.ByteArray renaming toList_eq→pi
open Go.WideAt renaming IsKeyLit→qn
open _root_.Bool renaming or_true→tf,true→tE,false→tG
open Go.WideMaps renaming keyOf_string_mk→th
open _root_.Option renaming some→tB,none→tD
open Go.Obj renaming cells→ua
open Go.Ending renaming returned→ub
open Go.IntKind renaming i64→U
open Tryz
theorem FQ (m:Mo)(g:Fn)(i:Ins)(w:World)(G:i.op=9)(h:dQ w m g i):
  zP 189 #[tW (jg m g),tW i.cells] w (Z U (ay m g.vs i)):=by
 have J:cm (ay m g.vs i=bM ((az g.vs i.a).1&&az g.vs i.a==az g.vs i.d) 7):=by
  unfold cm ay;rw[G];rfl
 obtain⟨R,hR⟩:=zE (ay m g.vs i);rw[hR] at J⊢;clear hR;have va:=zH h;obtain⟨N,f,hN,vc,vd,uv,⟨i0,i1,i2,i3,i4,i6⟩,HN,vf,uc,ud,vh,HT,HD,HA,HB⟩:=cu G h;clear h G;obtain⟨⟨u,sa⟩,A⟩:∃t,az g.vs i.a=t:=⟨_,rfl⟩
 obtain⟨⟨bd,sd⟩,D⟩:∃t,az g.vs i.d=t:=⟨_,rfl⟩
 have vi:(az g.vs i.a).1=u:=by rw[A]
 have vj:(az g.vs i.a).2=sa:=by rw[A]
 have vm:(az g.vs i.d).1=bd:=by rw[D]
 have vp:(az g.vs i.d).2=sd:=by rw[D]
 have HV:cm (∀v,v=i.a\/v=i.d->isVar g.vs.length v=tE):=λv h=>by rcases h with rfl|rfl;exact HA.out rfl;exact HD.out rfl
 have ue:cm (∀(p:BW f)(v:bp),isVar g.vs.length v=tE->zP 188 #[tW (jg m g),Z U v] p.w (tW #[tU (az g.vs v).1,tM (az g.vs v).2])):=λp v hv=>HT.out p.w v (by rw[HN.out];exact uc.out.trans (p.h.mono (by omega))) hv;unfold jg at ue;obtain⟨d,ur⟩:=zE (((u,sa):Ty)==(bd,sd));have vq:∀w,(gE 10000 32 (tW #[tU u,tM sa]) (tW #[tU bd,tM sd])).run ac w= .ok d w:=λw=>by rw[dH,ur]
 have ux:cm (R=bM (u&&d) 7):=by unfold cm;rw[J.out,A,D,ur]
 have vr:=kr;have q:cm (∀p:BW f,jC p.w N m g):=λp=>jC.of ((p.h.block N (by omega)).trans ud.out);have k0:∀p:BW f,p.w.cell? ⟨N,0,tD⟩=tB (tP m.sA m.ss.length m.sC):=λp=>(q.out p).1;have k1:∀p:BW f,p.w.cell? ⟨N,1,tD⟩=tB (tP m.fA m.fs.length m.fC):=λp=>(q.out p).2.1;have k2:∀p:BW f,p.w.cell? ⟨N,2,tD⟩=tB (tM g.c.nm):=λp=>(q.out p).2.2.1;have k3:∀p:BW f,p.w.cell? ⟨N,3,tD⟩=tB (Z U g.c.par):=λp=>(q.out p).2.2.2.1;have k4:∀p:BW f,p.w.cell? ⟨N,4,tD⟩=tB (tP g.c.varsA g.c.nvars g.c.varsC):=λp=>(q.out p).2.2.2.2.1;have k5:∀p:BW f,p.w.cell? ⟨N,5,tD⟩=tB (tU g.c.rp):=λp=>(q.out p).2.2.2.2.2.1;have k6:∀p:BW f,p.w.cell? ⟨N,6,tD⟩=tB (tM g.c.rto):=λp=>(q.out p).2.2.2.2.2.2.1;have k7:∀p:BW f,p.w.cell? ⟨N,7,tD⟩=tB (Z U g.c.rcl):=λp=>(q.out p).2.2.2.2.2.2.2.1;have k8:∀p:BW f,p.w.cell? ⟨N,8,tD⟩=tB (tP g.c.fromA g.c.nfrom g.c.fromC):=λp=>(q.out p).2.2.2.2.2.2.2.2.1;have k9:∀p:BW f,p.w.cell? ⟨N,9,tD⟩=tB (tP g.c.insA g.c.ins.length g.c.insC):=λp=>(q.out p).2.2.2.2.2.2.2.2.2;have vu:∀p:BW f,p.w.cell? ⟨N+1,1,tD⟩=tB (Z U i.d):=λp=>by rw[p.h.cell (p:=⟨N+1,1,tD⟩) uv];exact i1
 have vx:∀p:BW f,p.w.cell? ⟨N+1,2,tD⟩=tB (Z U i.a):=λp=>by rw[p.h.cell (p:=⟨N+1,2,tD⟩) uv];exact i2
 clear J A D ur HT HB va;cases u with
 |false=>
  go_enter fx,eV
  go_wp2_with (refine ci rfl 184 _ rfl N rfl 184 (jg m g) (0,0) _ ud.out cI rfl (by kernel_rfl) ?_)
  refine zQ ?_
  repeat (go_big_quiet_step (first
   |(go_at_call 188;exact aW (ue.out _ _ (HV.out _ (by first|exact .inl rfl|exact .inr rfl))))
   |(go_at_call 99;exact jF (aF _ _ _))))
  refine eh ?_;rintro _ ⟨p,rfl⟩;go_wp2;go_ret;rw[ux.out,HN.out];exact⟨rfl,uc.out.trans (p.h.mono (by omega))⟩
 |true=>
  go_enter fx,eV
  go_wp2_with (refine ci rfl 184 _ rfl N rfl 184 (jg m g) (0,0) _ ud.out cI rfl (by kernel_rfl) ?_)
  refine zQ ?_
  repeat (go_big_quiet_step (first
   |(go_at_call 188;exact aW (ue.out _ _ (HV.out _ (by first|exact .inl rfl|exact .inr rfl))))
   |(go_at_call 99;exact jF (aF _ _ _))))
  refine eh ?_;rintro _ ⟨p,rfl⟩;go_wp2;go_ret;rw[ux.out,HN.out];exact⟨rfl,uc.out.trans (p.h.mono (by omega))⟩
theorem EA (m:Mo)(g:Fn)(i:Ins)(w:World)(uv:i.op=12)(h:dQ w m g i):
  zP 189 #[tW (jg m g),tW i.cells] w (Z U (ay m g.vs i)):=by
 have A:cm (ay m g.vs i=if i.f<0 then 15 else match m.ss[i.f.toNat]? with
  |none=>15
  |some s=>bM (az g.vs i.d==(tE,s.s.nm)) 7):=by
  unfold cm ay;rw[uv];rfl
 obtain⟨R,hR⟩:=zE (ay m g.vs i);rw[hR] at A⊢;clear hR;have ue:=zH h;obtain⟨N,q,hN,vr,vu,vd,⟨i0,i1,i2,i3,i4,i6⟩,HN,vx,D,G,vy,HT,HD,HA,HB⟩:=cu uv h;clear h uv;have vj:q.cell? ⟨N,0,tD⟩=tB (tP m.sA m.ss.length m.sC):=(jC.of G.out).1
 by_cases J:i.f<0
 ·have uc:cm (R=15):=by unfold cm;rw[A.out,cR J]
  clear A HT HD HA HB ue;go_enter fx,eV
  go_wp2_with (refine ci rfl 184 _ rfl N rfl 184 (jg m g) (0,0) _ G.out cI rfl (by kernel_rfl) ?_)
  go_ret;rw[uc.out];exact⟨rfl,by first|exact D.out|(rw[HN.out];exact D.out)⟩
 obtain⟨F,hF⟩:∃F:bx,i.f=(F:bp):=⟨i.f.toNat,by omega⟩
 rw[hF] at i4
 by_cases ud:F<m.ss.length
 ·obtain⟨st,hst⟩:∃f,m.ss[F]?=tB f:=⟨_,am ud⟩
  have vf:cm (R=bM (az g.vs i.d==(tE,st.s.nm)) 7):=by
   unfold cm;rw[A.out,cE J,hF,cP,hst]
  obtain⟨sb,vh,ux,vm,vi⟩:=ue.out.j.mo.srow (by intro e;rw[e] at ud;simp at ud);have vp:sb<N:=by omega
  have c0:w.cell? ⟨sb,vh+F*4,tD⟩=tB (tM st.s.nm):=vi F st hst 0 _ rfl;obtain⟨⟨bd,sd⟩,ur⟩:∃t,az g.vs i.d=t:=⟨_,rfl⟩
  have we:(az g.vs i.d).1=bd:=by rw[ur]
  have wg:(az g.vs i.d).2=sd:=by rw[ur]
  have HV:cm (∀v,v=i.d\/v=i.d->isVar g.vs.length v=tE):=λv h=>by rcases h with rfl|rfl<;>exact HD.out rfl
  have va:cm (∀(p:BW q)(v:bp),isVar g.vs.length v=tE->zP 188 #[tW (jg m g),Z U v] p.w (tW #[tU (az g.vs v).1,tM (az g.vs v).2])):=λp v hv=>HT.out p.w v (by rw[HN.out];exact D.out.trans (p.h.mono (by omega))) hv;unfold jg at va;obtain⟨d,vc⟩:=zE (((bd,sd):Ty)==(tE,st.s.nm));have wi:∀w,(gE 10000 32 (tW #[tU bd,tM sd]) (tW #[tU tE,tM st.s.nm])).run ac w= .ok d w:=λw=>by rw[dH,vc]
  have uc:cm (R=bM d 7):=by unfold cm;rw[vf.out,ur,vc]
  have u:cm (∀p:BW q,jC p.w N m g):=λp=>jC.of ((p.h.block N (by omega)).trans G.out);have k0:∀p:BW q,p.w.cell? ⟨N,0,tD⟩=tB (tP m.sA m.ss.length m.sC):=λp=>(u.out p).1;have k1:∀p:BW q,p.w.cell? ⟨N,1,tD⟩=tB (tP m.fA m.fs.length m.fC):=λp=>(u.out p).2.1;have k2:∀p:BW q,p.w.cell? ⟨N,2,tD⟩=tB (tM g.c.nm):=λp=>(u.out p).2.2.1;have k3:∀p:BW q,p.w.cell? ⟨N,3,tD⟩=tB (Z U g.c.par):=λp=>(u.out p).2.2.2.1;have k4:∀p:BW q,p.w.cell? ⟨N,4,tD⟩=tB (tP g.c.varsA g.c.nvars g.c.varsC):=λp=>(u.out p).2.2.2.2.1;have k5:∀p:BW q,p.w.cell? ⟨N,5,tD⟩=tB (tU g.c.rp):=λp=>(u.out p).2.2.2.2.2.1;have k6:∀p:BW q,p.w.cell? ⟨N,6,tD⟩=tB (tM g.c.rto):=λp=>(u.out p).2.2.2.2.2.2.1;have k7:∀p:BW q,p.w.cell? ⟨N,7,tD⟩=tB (Z U g.c.rcl):=λp=>(u.out p).2.2.2.2.2.2.2.1;have k8:∀p:BW q,p.w.cell? ⟨N,8,tD⟩=tB (tP g.c.fromA g.c.nfrom g.c.fromC):=λp=>(u.out p).2.2.2.2.2.2.2.2.1;have k9:∀p:BW q,p.w.cell? ⟨N,9,tD⟩=tB (tP g.c.insA g.c.ins.length g.c.insC):=λp=>(u.out p).2.2.2.2.2.2.2.2.2;have wj:∀p:BW q,p.w.cell? ⟨N+1,1,tD⟩=tB (Z U i.d):=λp=>by rw[p.h.cell (p:=⟨N+1,1,tD⟩) vd];exact i1
  have wk:∀p:BW q,p.w.cell? ⟨N+1,4,tD⟩=tB (Z U (F:bp)):=λp=>by rw[p.h.cell (p:=⟨N+1,4,tD⟩) vd];exact i4
  have wl:∀p:BW q,p.w.cell? ⟨sb,vh+F*4,tD⟩=tB (tM st.s.nm):=λp=>by
   rw[(D.out.trans (p.h.mono (by omega))).cell (p:=⟨sb,_,tD⟩) vp];exact c0
  have vq:(F:bp)<(m.ss.length:bp):=by omega
  have ws:sb<q.heap.size:=by omega
  have wx:∀(s:aE)(w:World),(Instr.build 32 #[(0,tU tE),(1,tM s)]).run ac w= .ok (tW #[tU tE,tM s]) w:=λs w=>run_build w 32 _ _ (by kernel_rfl);rw[ux] at vj k0 va;have xf:=zH ux;clear A vf vc ur HT HB ue ux hst ud hF J vm vi c0;go_enter fx,eV
  go_wp2_with (refine ci rfl 184 _ rfl N rfl 184 (jg m g) (0,0) _ G.out cI rfl (by kernel_rfl) ?_)
  refine zQ ?_
  repeat (go_big_quiet_step (first
   |(go_at_call 188;exact aW (va.out _ _ (HV.out _ (by first|exact .inl rfl|exact .inr rfl))))
   |(go_at_call 99;exact jF (aF _ _ _))))
  refine eh ?_;rintro _ ⟨p,rfl⟩;go_wp2;go_ret;rw[uc.out,HN.out];exact⟨rfl,D.out.trans (p.h.mono (by omega))⟩
 ·have uc:cm (R=15):=by unfold cm;rw[A.out,cE J,hF,cP,my (by omega)]
  have vq:¬((F:bp)<(m.ss.length:bp)):=by omega
  clear A HT HD HA HB ue ud hF J;go_enter fx,eV
  go_wp2_with (refine ci rfl 184 _ rfl N rfl 184 (jg m g) (0,0) _ G.out cI rfl (by kernel_rfl) ?_)
  go_ret;rw[uc.out];exact⟨rfl,by first|exact D.out|(rw[HN.out];exact D.out)⟩
theorem Bu {w:World}{B:bx}{xs:bm bp}(d:B=w.heap.size):aA (w.alloc (ua (xs.map (eE .i64)).toArray 3)) (tB ⟨B,0,tD⟩) xs:=by
 subst d;intro _;refine⟨w.heap.size,0,rfl,by simp,λk u f=> ?_⟩;rw[cV,World.cell?_alloc_new];simp[f]
theorem sG {w:World}{B:bx}{xs:bm aE}(d:B=w.heap.size):aR (w.alloc (ua (xs.map fh).toArray 9)) (tB ⟨B,0,tD⟩) xs:=by
 subst d;intro _;refine⟨w.heap.size,0,rfl,by simp,λk u f=> ?_⟩;rw[cV,World.cell?_alloc_new];simp[f]
theorem FT (m:Mo)(g:Fn)(i:Ins)(w:World)(ud:i.op=4)(h:dQ w m g i):
  zP 189 #[tW (jg m g),tW i.cells] w (Z U (ay m g.vs i)):=by
 have J:cm (ay m g.vs i=eO (dX g.vs [i.d,i.a,i.b]) i.sign gK):=by
  unfold cm ay;rw[ud];rfl
 obtain⟨R,hR⟩:=zE (ay m g.vs i);rw[hR] at J⊢;clear hR;have vc:=zH h;obtain⟨N,f,hN,vi,vj,uc,⟨i0,i1,i2,i3,i4,i6⟩,HN,vm,vd,vh,vp,HT,HD,HA,HB⟩:=cu ud h;clear h ud;obtain⟨r0,ue⟩:=zE (dX g.vs [i.d,i.a,i.b]);rw[ue] at J;have ur:cm (∀(W:World)(u:bx),bh f.heap.size f W->aA W (tB ⟨u,0,tD⟩) [i.d,i.a,i.b]->zP 187 #[tW (jg m g),tP (tB ⟨u,0,tD⟩) 3 3] W (Z U r0)):=by
  intro W u A uv;have hj:=vc.out.j.below (by rw[HN.out];exact vd.out.trans (A.mono (by omega)):bh w.heap.size w W);have:=dA m g (tB ⟨u,0,tD⟩) [i.d,i.a,i.b] 3 W hj.vars hj.nv hj.vl (by unfold dT;simp) uv (by simp;exact⟨HD.out rfl,HA.out rfl,HB.out rfl⟩);rw[ue] at this;exact this
 have ux:cm (∀(W:World)(u:bx),aR W (tB ⟨u,0,tD⟩) gK->zS 226 #[Z U r0,tM i.sign,tP (tB ⟨u,0,tD⟩) 11 11] W (Z U R)):=by
  intro W u uv;rw[J.out];exact oI r0 i.sign gK (tB ⟨u,0,tD⟩) 11 W (by unfold dT gK;simp) uv
 have v:cm (∀W,bh f.heap.size f W->W.cell? ⟨N+1,1,tD⟩=tB (Z U i.d)/\W.cell? ⟨N+1,2,tD⟩=tB (Z U i.a)/\W.cell? ⟨N+1,3,tD⟩=tB (Z U i.b)/\W.cell? ⟨N+1,6,tD⟩=tB (tM i.sign)/\bh f.heap.size f W):=λW A=>
  ⟨by rw[A.cell (p:=⟨N+1,1,tD⟩) uc];exact i1,by rw[A.cell (p:=⟨N+1,2,tD⟩) uc];exact i2,by rw[A.cell (p:=⟨N+1,3,tD⟩) uc];exact i3,by rw[A.cell (p:=⟨N+1,6,tD⟩) uc];exact i6,A⟩
 have HI:cm (∀(W:World)(B:bx),B=W.heap.size->aA (W.alloc (ua #[Z U i.d,Z U i.a,Z U i.b] 3)) (tB ⟨B,0,tD⟩) [i.d,i.a,i.b]):=λW B hB=>Bu hB;have va:cm (∀(W:World)(B:bx),B=W.heap.size->aR (W.alloc (ua #[tM ⟨#[43]⟩,tM ⟨#[45]⟩,tM ⟨#[42]⟩,tM ⟨#[47]⟩,tM ⟨#[37]⟩,tM ⟨#[60]⟩,tM ⟨#[60,61]⟩,tM ⟨#[62]⟩,tM ⟨#[62,61]⟩,tM ⟨#[61,61]⟩,tM ⟨#[33,61]⟩] 9)) (tB ⟨B,0,tD⟩) gK):=λW B hB=>sG hB;clear J HD HA HB HT vc ue;go_enter fx,eV
 go_wp2_with (refine ci rfl 184 _ rfl N rfl 184 (jg m g) (0,0) _ vh.out cI rfl (by kernel_rfl) ?_)
 go_region_held3 (λw'=>w'.cell? ⟨N+1,1,tD⟩=tB (Z U i.d)/\w'.cell? ⟨N+1,2,tD⟩=tB (Z U i.a)/\w'.cell? ⟨N+1,3,tD⟩=tB (Z U i.b)/\w'.cell? ⟨N+1,6,tD⟩=tB (tM i.sign)/\bh f.heap.size f w')
  (first
   |(exact hS)
   |(exact v.out _ ((aq _ _).drew))
   |(exact v.out _ (((aq _ _).drew).alloc (by simp) _))
   |(exact v.out _ ((((aq _ _).drew).alloc (by simp) _).alloc (by simp<;>omega) _))
   |(exact v.out _ q)
   |(exact v.out _ (q.alloc (by have:=q.size;omega) _))
   |fail)
  (first
   |(go_at_call 187;first
      |(refine(ur.out _ _ (((aq _ _).drew).alloc (by simp) _) (HI.out _ _ (by simp<;>omega))).mono ?_;rintro e G ⟨rfl,D⟩;have q:bh f.heap.size f G:=(((aq _ _).drew).alloc (by simp) _).trans (D.mono (by simp));have hS:=v.out _ q)
      |(refine(ur.out _ _ ((((aq _ _).drew).alloc (by simp) _).alloc (by simp<;>omega) _) (HI.out _ _ (by simp<;>omega))).mono ?_;rintro e G ⟨rfl,D⟩;have q:bh f.heap.size f G:=((((aq _ _).drew).alloc (by simp) _).alloc (by simp<;>omega) _).trans (D.mono (by simp<;>omega));have hS:=v.out _ q)
      |(refine(ur.out _ _ ((((aq _ _).drew).alloc (by simp) _).alloc (by simp<;>omega) _) ((HI.out _ _ (by simp<;>omega)).below ((aq _ _).alloc (ce _) _))).mono ?_;rintro e G ⟨rfl,D⟩;have q:bh f.heap.size f G:=((((aq _ _).drew).alloc (by simp) _).alloc (by simp<;>omega) _).trans (D.mono (by simp<;>omega));have hS:=v.out _ q))
   |(go_at_call 226;first
      |(refine(ux.out _ _ (va.out _ _ (by simp))).mono ?_;rintro e vf ⟨rfl,rfl⟩)
      |(refine(ux.out _ _ ((va.out _ _ (by simp<;>omega)).below D)).mono ?_;rintro e vf ⟨rfl,rfl⟩)
      |(refine(ux.out _ _ (((va.out _ _ (by simp<;>omega)).below ((aq _ _).alloc (ce _) _)).below D)).mono ?_;rintro e vf ⟨rfl,rfl⟩)))
 all_goals
  clear hS;go_wp2;go_ret;refine⟨rfl, ?_⟩;rw[HN.out];exact vd.out.trans (pw (by first|exact q|exact q.alloc (by have:=q.size;omega) _) (by omega))
section
variable {P:km}{ops:da ke}{Q:Exit->Act->World->Prop}{md:gO}{S:World->Prop}
theorem zW (i:bx)(v:cd){d:ke}{fuel:bx}{listed:da nj}{a:Act}{w:World}(f:ops[i]?=tB d)
  (h:wpAnyH P md ops Q S fuel (listed.setIfInBounds i tE) (a.put d.dst v) w)
  (q:∀w,S w->(execOp a.eval d).run P w= .ok (.value v) w:=by intro w u;(try dsimp only at u);go_simp)
  (A:eC d (kj ops a.tmps)=tE:=by rfl)(D:fi ops=tE:=by kernel_rfl)(G:kB md ops listed i=tE:=by kernel_rfl)(J:(dd md ops listed).contains i=tE:=by kernel_rfl)
  (hQ:∀c a w,Q (.panic c) (a.put d.dst v) w->Q (.panic c) a w:=by exact λ_ _ _ h=>h)(hS:S w:=by assumption):wpAnyH P md ops Q S (fuel+1) listed a w:=
 wpAnyH_take f D G J hQ (.inl ⟨A,q⟩) hS h
theorem zX (i:bx){d:ke}{fuel:bx}{listed:da nj}{a:Act}{w:World}(f:ops[i]?=tB d)
  (h:wpAnyH P md ops Q S fuel (listed.setIfInBounds i tE) (a.put d.dst undef) w)
  (q:eC d (kj ops a.tmps)=tG:=by rfl)(u:fi ops=tE:=by kernel_rfl)(v:kB md ops listed i=tE:=by kernel_rfl)(A:(dd md ops listed).contains i=tE:=by kernel_rfl)
  (D:∀c a w,Q (.panic c) (a.put d.dst undef) w->Q (.panic c) a w:=by exact λ_ _ _ h=>h)(G:S w:=by assumption):wpAnyH P md ops Q S (fuel+1) listed a w:=
 wpAnyH_take f u v A D (.inr ⟨q,rfl⟩) G h
end
theorem EB (m:Mo)(g:Fn)(i:Ins)(w:World)(vc:i.op=14)(h:dQ w m g i):
  zP 189 #[tW (jg m g),tW i.cells] w (Z U (ay m g.vs i)):=by
 have HE:cm (ay m g.vs i=eO (bM (!(az g.vs i.d).1&&(az g.vs i.a).1) 7) i.sign ji):=by
  unfold cm ay;rw[vc];rfl
 obtain⟨R,hR⟩:=zE (ay m g.vs i);rw[hR] at HE⊢;clear hR;have vp:=zH h;obtain⟨N,G,hN,vr,vu,vd,⟨i0,i1,i2,i3,i4,i6⟩,HN,vx,ue,vf,vy,HT,HD,HA,HB⟩:=cu vc h;clear h vc;obtain⟨⟨ba,sa⟩,ur⟩:∃t,az g.vs i.a=t:=⟨_,rfl⟩
 obtain⟨⟨bd,sd⟩,uv⟩:∃t,az g.vs i.d=t:=⟨_,rfl⟩
 have we:(az g.vs i.a).1=ba:=by rw[ur]
 have wg:(az g.vs i.a).2=sa:=by rw[ur]
 have wi:(az g.vs i.d).1=bd:=by rw[uv]
 have wj:(az g.vs i.d).2=sd:=by rw[uv]
 have HV:cm (∀v,v=i.a\/v=i.d->isVar g.vs.length v=tE):=λv h=>by rcases h with rfl|rfl;exact HA.out rfl;exact HD.out rfl
 have vh:cm (∀(W:World)(v:bp),bh G.heap.size G W->isVar g.vs.length v=tE->gd ac 188 #[tW #[tP m.sA m.ss.length m.sC,tP m.fA m.fs.length m.fC,tM g.c.nm,Z U g.c.par,tP g.c.varsA g.c.nvars g.c.varsC,tU g.c.rp,tM g.c.rto,Z U g.c.rcl,tP g.c.fromA g.c.nfrom g.c.fromC,tP g.c.insA g.c.ins.length g.c.insC],Z U v] W λe w'=>e= ub (tW #[tU (az g.vs v).1,tM (az g.vs v).2])/\bh G.heap.size G w'/\bh W.heap.size W w'):=by
  intro W v hW hv;refine(HT.out W v (by rw[HN.out];exact ue.out.trans (hW.mono (by omega))) hv).mono ?_;rintro e w' ⟨rfl,hb⟩;exact⟨rfl,hW.trans (hb.mono hW.size),hb⟩
 have vi:cm (R=eO (bM (!bd&&ba) 7) i.sign ji):=by unfold cm;rw[HE.out,ur,uv]
 have ux:cm (∀(W:World)(va:bx),aR W (tB ⟨va,0,tD⟩) ji->zS 226 #[Z U (bM (!bd&&ba) 7),tM i.sign,tP (tB ⟨va,0,tD⟩) 2 2] W (Z U R)):=by
  intro W va vq;rw[vi.out];exact oI _ i.sign ji (tB ⟨va,0,tD⟩) 2 W (by unfold dT ji;simp) vq
 have vj:cm (∀W,bh G.heap.size G W->jC W N m g):=λW hW=>jC.of ((hW.block N (by omega)).trans vf.out);have u:cm (∀W,bh G.heap.size G W->W.cell? ⟨N,0,tD⟩=tB (tP m.sA m.ss.length m.sC)/\W.cell? ⟨N,1,tD⟩=tB (tP m.fA m.fs.length m.fC)/\W.cell? ⟨N,2,tD⟩=tB (tM g.c.nm)/\W.cell? ⟨N,3,tD⟩=tB (Z U g.c.par)/\W.cell? ⟨N,4,tD⟩=tB (tP g.c.varsA g.c.nvars g.c.varsC)/\W.cell? ⟨N,5,tD⟩=tB (tU g.c.rp)/\W.cell? ⟨N,6,tD⟩=tB (tM g.c.rto)/\W.cell? ⟨N,7,tD⟩=tB (Z U g.c.rcl)/\W.cell? ⟨N,8,tD⟩=tB (tP g.c.fromA g.c.nfrom g.c.fromC)/\W.cell? ⟨N,9,tD⟩=tB (tP g.c.insA g.c.ins.length g.c.insC)/\W.cell? ⟨N+1,1,tD⟩=tB (Z U i.d)/\W.cell? ⟨N+1,2,tD⟩=tB (Z U i.a)/\W.cell? ⟨N+1,6,tD⟩=tB (tM i.sign)/\bh G.heap.size G W):=λW hW=>by
  obtain⟨a0,a1,a2,a3,a4,a5,a6,a7,a8,a9⟩:=vj.out W hW;exact⟨a0,a1,a2,a3,a4,a5,a6,a7,a8,a9,by rw[hW.cell (p:=⟨N+1,1,tD⟩) vd];exact i1,by rw[hW.cell (p:=⟨N+1,2,tD⟩) vd];exact i2,by rw[hW.cell (p:=⟨N+1,6,tD⟩) vd];exact i6,hW⟩
 have A:cm (∀(W:World)(B:bx),B=W.heap.size->aR (W.alloc (ua #[tM ⟨#[61,61]⟩,tM ⟨#[33,61]⟩] 9)) (tB ⟨B,0,tD⟩) ji):=λW B hB=>sG hB;have wk:=kr;clear HE HD HA HB HT vp ur uv vj vi;cases bd with
 |false=>
  go_enter fx,eV
  go_wp2_with (refine ci rfl 184 _ rfl N rfl 184 (jg m g) (0,0) _ vf.out cI rfl (by kernel_rfl) ?_)
  go_region_held3 (λw'=>w'.cell? ⟨N,0,tD⟩=tB (tP m.sA m.ss.length m.sC)/\w'.cell? ⟨N,1,tD⟩=tB (tP m.fA m.fs.length m.fC)/\w'.cell? ⟨N,2,tD⟩=tB (tM g.c.nm)/\w'.cell? ⟨N,3,tD⟩=tB (Z U g.c.par)/\w'.cell? ⟨N,4,tD⟩=tB (tP g.c.varsA g.c.nvars g.c.varsC)/\w'.cell? ⟨N,5,tD⟩=tB (tU g.c.rp)/\w'.cell? ⟨N,6,tD⟩=tB (tM g.c.rto)/\w'.cell? ⟨N,7,tD⟩=tB (Z U g.c.rcl)/\w'.cell? ⟨N,8,tD⟩=tB (tP g.c.fromA g.c.nfrom g.c.fromC)/\w'.cell? ⟨N,9,tD⟩=tB (tP g.c.insA g.c.ins.length g.c.insC)/\w'.cell? ⟨N+1,1,tD⟩=tB (Z U i.d)/\w'.cell? ⟨N+1,2,tD⟩=tB (Z U i.a)/\w'.cell? ⟨N+1,6,tD⟩=tB (tM i.sign)/\bh G.heap.size G w')
   (first
    |(exact D)
    |(exact u.out _ (by first|exact(aq _ _).drew|exact((aq _ _).drew).alloc (by simp) _|exact f|exact f.alloc (by have:=f.size;omega) _|fail))
    |fail)
   (first
    |(go_at_call 188;refine(vh.out _ _ (by first|exact(aq _ _).drew|exact((aq _ _).drew).alloc (by simp) _|exact f|exact f.alloc (by have:=f.size;omega) _|fail) (HV.out _ (by first|exact .inl rfl|exact .inr rfl))).mono ?_;rintro e vm ⟨rfl,f,J⟩;have D:=u.out _ f)
    |(go_at_call 99;refine(aF _ _ _).mono ?_;rintro e ud ⟨rfl,rfl⟩)
    |(go_at_call 226;refine(ux.out _ _ (by first|exact A.out _ _ rfl|(refine aR.below ?_ J;exact A.out _ _ rfl)|(refine aR.below ?_ J;refine aR.below ?_ ((aq _ _).drew);exact A.out _ _ (by first|omega|(simp<;>omega)))|(refine aR.below ?_ J;refine aR.below ?_ (by assumption);refine aR.below ?_ ((aq _ _).drew);exact A.out _ _ (by first|omega|(simp<;>omega)))|fail)).mono ?_;rintro e ud ⟨rfl,rfl⟩))
  all_goals
   clear D;go_wp2;go_ret;refine⟨rfl, ?_⟩;rw[HN.out];exact ue.out.trans (pw (by first|exact f|exact f.alloc (by have:=f.size;omega) _) (by omega))
 |true=>
  go_enter fx,eV
  go_wp2_with (refine ci rfl 184 _ rfl N rfl 184 (jg m g) (0,0) _ vf.out cI rfl (by kernel_rfl) ?_)
  refine wp_region_held_drew (S:=(λw'=>w'.cell? ⟨N,0,tD⟩=tB (tP m.sA m.ss.length m.sC)/\w'.cell? ⟨N,1,tD⟩=tB (tP m.fA m.fs.length m.fC)/\w'.cell? ⟨N,2,tD⟩=tB (tM g.c.nm)/\w'.cell? ⟨N,3,tD⟩=tB (Z U g.c.par)/\w'.cell? ⟨N,4,tD⟩=tB (tP g.c.varsA g.c.nvars g.c.varsC)/\w'.cell? ⟨N,5,tD⟩=tB (tU g.c.rp)/\w'.cell? ⟨N,6,tD⟩=tB (tM g.c.rto)/\w'.cell? ⟨N,7,tD⟩=tB (Z U g.c.rcl)/\w'.cell? ⟨N,8,tD⟩=tB (tP g.c.fromA g.c.nfrom g.c.fromC)/\w'.cell? ⟨N,9,tD⟩=tB (tP g.c.insA g.c.ins.length g.c.insC)/\w'.cell? ⟨N+1,1,tD⟩=tB (Z U i.d)/\w'.cell? ⟨N+1,2,tD⟩=tB (Z U i.a)/\w'.cell? ⟨N+1,6,tD⟩=tB (tM i.sign)/\bh G.heap.size G w')) (by kernel_rfl) (u.out _ (aq _ _).drew) (λuc=> ?_);refine zW 0 (tW #[tP m.sA m.ss.length m.sC,tP m.fA m.fs.length m.fC,tM g.c.nm,Z U g.c.par,tP g.c.varsA g.c.nvars g.c.varsC,tU g.c.rp,tM g.c.rto,Z U g.c.rcl,tP g.c.fromA g.c.nfrom g.c.fromC,tP g.c.insA g.c.ins.length g.c.insC]) rfl ?_
  try simp only[dk,cC,cy,aw,bt,bw]
  refine zW 1 (tR (tB ⟨N+1,1,tD⟩)) rfl ?_
  try simp only[dk,cC,cy,cA,aw,bt,bw]
  refine zW 2 (Z U i.d) rfl ?_
  try simp only[dk,cC,cy,cA,aw,bt,bw]
  refine zW 14 (tR (tB ⟨N+1,6,tD⟩)) rfl ?_
  try simp only[dk,cC,cy,cA,aw,bt,bw]
  refine zW 15 (tM i.sign) rfl ?_
  try simp only[dk,cC,cy,cA,aw,bt,bw]
  refine kO (rs:=[3,16]) (by kernel_rfl) (by simp) ?_;refine gh rfl (λK q=> ?_) ?_
  ·
   go_simp
   (go_at_call 188;refine(vh.out _ _ (by first|exact(aq _ _).drew|exact((aq _ _).drew).alloc (by simp) _|exact f|exact f.alloc (by have:=f.size;omega) _|fail) (HV.out _ (by first|exact .inl rfl|exact .inr rfl))).mono ?_;rintro e vm ⟨rfl,f,J⟩;have D:=u.out _ f)
   go_wp2_with fail
   refine q.out _ _ (by first|exact D|exact u.out _ (by first|exact(aq _ _).drew|exact((aq _ _).drew).alloc (by simp) _|exact f|exact f.alloc (by have:=f.size;omega) _|fail)|fail) (λuc=> ?_);clear q K
   try simp only[dk,cC,cy,cA,aw,bt,bw]
   refine zW 4 (tU tE) rfl ?_
   try simp only[dk,cC,cy,cA,aw,bt,bw]
   refine zW 5 (tU tG) rfl ?_
   try simp only[dk,cC,cy,cA,aw,bt,bw]
   refine zW 6 (tU tG) rfl ?_
   try simp only[dk,cC,cy,cA,aw,bt,bw]
   refine zX 7 rfl ?_
   try simp only[dk,cC,cy,cA,aw,bt,bw]
   refine zX 8 rfl ?_
   try simp only[dk,cC,cy,cA,aw,bt,bw]
   refine zX 9 rfl ?_
   try simp only[dk,cC,cy,cA,aw,bt,bw]
   refine zX 10 rfl ?_
   try simp only[dk,cC,cy,cA,aw,bt,bw]
   refine zX 11 rfl ?_
   try simp only[dk,cC,cy,cA,aw,bt,bw]
   refine zW 12 (tU tG) rfl ?_
   try simp only[dk,cC,cy,cA,aw,bt,bw]
   refine kO (rs:=[13,16]) (by kernel_rfl) (by simp) ?_;refine gh rfl (λK q=> ?_) ?_
   ·
    go_simp
    (go_at_call 99;refine(aF _ _ _).mono ?_;rintro e ud ⟨rfl,rfl⟩)
    go_wp2_with fail
    refine q.out _ _ (by first|exact D|exact u.out _ (by first|exact(aq _ _).drew|exact((aq _ _).drew).alloc (by simp) _|exact f|exact f.alloc (by have:=f.size;omega) _|fail)|fail) (λuc=> ?_);clear q K
    try simp only[dk,cC,cy,cA,aw,bt,bw]
    refine kO (rs:=[16]) (by kernel_rfl) (by simp) ?_;refine gh rfl (λK q=> ?_) ?_
    ·
     go_simp;refine q.out _ _ (by first|exact D|exact u.out _ (by first|exact(aq _ _).drew|exact((aq _ _).drew).alloc (by simp) _|exact f|exact f.alloc (by have:=f.size;omega) _|fail)|fail) (λuc=> ?_);clear q K
     try simp only[dk,cC,cy,cA,aw,bt,bw]
     refine kO (rs:=[17]) (by kernel_rfl) (by simp) ?_;refine gh rfl (λK q=> ?_) ?_
     ·
      go_simp
      (go_at_call 226;refine(ux.out _ _ (by first|exact A.out _ _ rfl|(refine aR.below ?_ J;exact A.out _ _ rfl)|(refine aR.below ?_ J;refine aR.below ?_ ((aq _ _).drew);exact A.out _ _ (by first|omega|(simp<;>omega)))|(refine aR.below ?_ J;refine aR.below ?_ (by assumption);refine aR.below ?_ ((aq _ _).drew);exact A.out _ _ (by first|omega|(simp<;>omega)))|fail)).mono ?_;rintro e ud ⟨rfl,rfl⟩)
      go_wp2_with fail
      refine q.out _ _ (by first|exact D|exact u.out _ (by first|exact(aq _ _).drew|exact((aq _ _).drew).alloc (by simp) _|exact f|exact f.alloc (by have:=f.size;omega) _|fail)|fail) (λuc=> ?_);clear q K
      try simp only[dk,cC,cy,cA,aw,bt,bw]
      refine zW 18 (Z U R) rfl ?_
      try simp only[dk,cC,cy,cA,aw,bt,bw]
      refine wpAnyH_done (by kernel_rfl) ?_ _;go_wp2;go_ret;refine⟨rfl, ?_⟩;rw[HN.out];exact ue.out.trans (pw (by first|exact f|exact f.alloc (by have:=f.size;omega) _) (by omega))
     exact iS
    exact iS
   refine gh rfl (λK q=> ?_) ?_
   ·
    go_simp;refine q.out _ _ (by first|exact D|exact u.out _ (by first|exact(aq _ _).drew|exact((aq _ _).drew).alloc (by simp) _|exact f|exact f.alloc (by have:=f.size;omega) _|fail)|fail) (λuc=> ?_);clear q K
    try simp only[dk,cC,cy,cA,aw,bt,bw]
    refine kO (rs:=[13]) (by kernel_rfl) (by simp) ?_;refine gh rfl (λK q=> ?_) ?_
    ·
     go_simp
     (go_at_call 99;refine(aF _ _ _).mono ?_;rintro e ud ⟨rfl,rfl⟩)
     go_wp2_with fail
     refine q.out _ _ (by first|exact D|exact u.out _ (by first|exact(aq _ _).drew|exact((aq _ _).drew).alloc (by simp) _|exact f|exact f.alloc (by have:=f.size;omega) _|fail)|fail) (λuc=> ?_);clear q K
     try simp only[dk,cC,cy,cA,aw,bt,bw]
     refine kO (rs:=[17]) (by kernel_rfl) (by simp) ?_;refine gh rfl (λK q=> ?_) ?_
     ·
      go_simp
      (go_at_call 226;refine(ux.out _ _ (by first|exact A.out _ _ rfl|(refine aR.below ?_ J;exact A.out _ _ rfl)|(refine aR.below ?_ J;refine aR.below ?_ ((aq _ _).drew);exact A.out _ _ (by first|omega|(simp<;>omega)))|(refine aR.below ?_ J;refine aR.below ?_ (by assumption);refine aR.below ?_ ((aq _ _).drew);exact A.out _ _ (by first|omega|(simp<;>omega)))|fail)).mono ?_;rintro e ud ⟨rfl,rfl⟩)
      go_wp2_with fail
      refine q.out _ _ (by first|exact D|exact u.out _ (by first|exact(aq _ _).drew|exact((aq _ _).drew).alloc (by simp) _|exact f|exact f.alloc (by have:=f.size;omega) _|fail)|fail) (λuc=> ?_);clear q K
      try simp only[dk,cC,cy,cA,aw,bt,bw]
      refine zW 18 (Z U R) rfl ?_
      try simp only[dk,cC,cy,cA,aw,bt,bw]
      refine wpAnyH_done (by kernel_rfl) ?_ _;go_wp2;go_ret;refine⟨rfl, ?_⟩;rw[HN.out];exact ue.out.trans (pw (by first|exact f|exact f.alloc (by have:=f.size;omega) _) (by omega))
     exact iS
    exact iS
   exact iS
  refine gh rfl (λK q=> ?_) ?_
  ·
   go_simp;refine q.out _ _ (by first|exact D|exact u.out _ (by first|exact(aq _ _).drew|exact((aq _ _).drew).alloc (by simp) _|exact f|exact f.alloc (by have:=f.size;omega) _|fail)|fail) (λuc=> ?_);clear q K
   try simp only[dk,cC,cy,cA,aw,bt,bw]
   refine kO (rs:=[3]) (by kernel_rfl) (by simp) ?_;refine gh rfl (λK q=> ?_) ?_
   ·
    go_simp
    (go_at_call 188;refine(vh.out _ _ (by first|exact(aq _ _).drew|exact((aq _ _).drew).alloc (by simp) _|exact f|exact f.alloc (by have:=f.size;omega) _|fail) (HV.out _ (by first|exact .inl rfl|exact .inr rfl))).mono ?_;rintro e vm ⟨rfl,f,J⟩;have D:=u.out _ f)
    go_wp2_with fail
    refine q.out _ _ (by first|exact D|exact u.out _ (by first|exact(aq _ _).drew|exact((aq _ _).drew).alloc (by simp) _|exact f|exact f.alloc (by have:=f.size;omega) _|fail)|fail) (λuc=> ?_);clear q K
    try simp only[dk,cC,cy,cA,aw,bt,bw]
    refine zW 4 (tU tE) rfl ?_
    try simp only[dk,cC,cy,cA,aw,bt,bw]
    refine zW 5 (tU tG) rfl ?_
    try simp only[dk,cC,cy,cA,aw,bt,bw]
    refine zW 6 (tU tG) rfl ?_
    try simp only[dk,cC,cy,cA,aw,bt,bw]
    refine zX 7 rfl ?_
    try simp only[dk,cC,cy,cA,aw,bt,bw]
    refine zX 8 rfl ?_
    try simp only[dk,cC,cy,cA,aw,bt,bw]
    refine zX 9 rfl ?_
    try simp only[dk,cC,cy,cA,aw,bt,bw]
    refine zX 10 rfl ?_
    try simp only[dk,cC,cy,cA,aw,bt,bw]
    refine zX 11 rfl ?_
    try simp only[dk,cC,cy,cA,aw,bt,bw]
    refine zW 12 (tU tG) rfl ?_
    try simp only[dk,cC,cy,cA,aw,bt,bw]
    refine kO (rs:=[13]) (by kernel_rfl) (by simp) ?_;refine gh rfl (λK q=> ?_) ?_
    ·
     go_simp
     (go_at_call 99;refine(aF _ _ _).mono ?_;rintro e ud ⟨rfl,rfl⟩)
     go_wp2_with fail
     refine q.out _ _ (by first|exact D|exact u.out _ (by first|exact(aq _ _).drew|exact((aq _ _).drew).alloc (by simp) _|exact f|exact f.alloc (by have:=f.size;omega) _|fail)|fail) (λuc=> ?_);clear q K
     try simp only[dk,cC,cy,cA,aw,bt,bw]
     refine kO (rs:=[17]) (by kernel_rfl) (by simp) ?_;refine gh rfl (λK q=> ?_) ?_
     ·
      go_simp
      (go_at_call 226;refine(ux.out _ _ (by first|exact A.out _ _ rfl|(refine aR.below ?_ J;exact A.out _ _ rfl)|(refine aR.below ?_ J;refine aR.below ?_ ((aq _ _).drew);exact A.out _ _ (by first|omega|(simp<;>omega)))|(refine aR.below ?_ J;refine aR.below ?_ (by assumption);refine aR.below ?_ ((aq _ _).drew);exact A.out _ _ (by first|omega|(simp<;>omega)))|fail)).mono ?_;rintro e ud ⟨rfl,rfl⟩)
      go_wp2_with fail
      refine q.out _ _ (by first|exact D|exact u.out _ (by first|exact(aq _ _).drew|exact((aq _ _).drew).alloc (by simp) _|exact f|exact f.alloc (by have:=f.size;omega) _|fail)|fail) (λuc=> ?_);clear q K
      try simp only[dk,cC,cy,cA,aw,bt,bw]
      refine zW 18 (Z U R) rfl ?_
      try simp only[dk,cC,cy,cA,aw,bt,bw]
      refine wpAnyH_done (by kernel_rfl) ?_ _;go_wp2;go_ret;refine⟨rfl, ?_⟩;rw[HN.out];exact ue.out.trans (pw (by first|exact f|exact f.alloc (by have:=f.size;omega) _) (by omega))
     exact iS
    exact iS
   exact iS
  exact iS
def qb:bm aE:=[⟨#[110,117,109]⟩,⟨#[110,117,108,108]⟩,⟨#[99,111,112,121]⟩,⟨#[98,105,110]⟩,⟨#[103,101,116]⟩,⟨#[112,117,116]⟩,⟨#[108,111,97,100]⟩,⟨#[115,116,111,114,101]⟩,⟨#[103,105,118,101]⟩,⟨#[116,97,107,101]⟩,⟨#[115,101,116]⟩,⟨#[110,101,119]⟩,⟨#[102,114,101,101]⟩,⟨#[105,115,110,117,108,108]⟩,⟨#[99,97,108,108]⟩,⟨#[106,117,109,112]⟩,⟨#[98,114,97,110,99,104]⟩,⟨#[114,101,116]⟩]
def jk (op:bp):aE:=if op<1\/18<op then⟨#[]⟩ else(qb[(op-1).toNat]?).getD ⟨#[]⟩
theorem wB {op:bp}(q:¬op<1)(u:¬18<op):∃(k:bx) (s:aE),op-1=(k:bp)/\k<18/\qb[k]?=tB s/\jk op=s:=by
 obtain⟨k,d⟩:∃k:bx,op-1=(k:bp):=⟨(op-1).toNat,by omega⟩
 have f:k<18:=by omega
 obtain⟨s,h⟩:∃s,qb[k]?=tB s:=⟨_,am (show k<qb.length from f)⟩
 refine⟨k,s,d,f,h, ?_⟩;unfold jk;rw[cE (by omega),d,cP,h];rfl
theorem zF {op:bp}:(jk op==⟨#[]⟩)=(decide (op<1)||decide (18<op)):=by
 by_cases h:op<1\/18<op
 ·have e:jk op=⟨#[]⟩:=cR h
  rw[e];rcases h with h|h
  ·rw[ef h];rfl
  ·rw[ef h,tf];rfl
 ·obtain⟨k,s,u,d,f,q⟩:=wB (op:=op) (by omega) (by omega)
  rw[q,cL (by omega),cL (by omega)];have:∀j:bx,j<18->∀s,qb[j]?=tB s->(s==(⟨#[]⟩:aE))=tG:=by decide
  exact this k d s f
theorem kQ (op:bp)(w:World):zP 183 #[Z U op] w (tM (jk op)):=by
 have hst:∀(c:da cd),c.size=18->(dr ⟨w.heap.size,0,tD⟩ [tM ⟨#[110,117,109]⟩,tM ⟨#[110,117,108,108]⟩,tM ⟨#[99,111,112,121]⟩,tM ⟨#[98,105,110]⟩,tM ⟨#[103,101,116]⟩,tM ⟨#[112,117,116]⟩,tM ⟨#[108,111,97,100]⟩,tM ⟨#[115,116,111,114,101]⟩,tM ⟨#[103,105,118,101]⟩,tM ⟨#[116,97,107,101]⟩,tM ⟨#[115,101,116]⟩,tM ⟨#[110,101,119]⟩,tM ⟨#[102,114,101,101]⟩,tM ⟨#[105,115,110,117,108,108]⟩,tM ⟨#[99,97,108,108]⟩,tM ⟨#[106,117,109,112]⟩,tM ⟨#[98,114,97,110,99,104]⟩,tM ⟨#[114,101,116]⟩] 0).run ac (w.alloc (ua c 316))= .ok () (w.alloc (ua #[tM ⟨#[110,117,109]⟩,tM ⟨#[110,117,108,108]⟩,tM ⟨#[99,111,112,121]⟩,tM ⟨#[98,105,110]⟩,tM ⟨#[103,101,116]⟩,tM ⟨#[112,117,116]⟩,tM ⟨#[108,111,97,100]⟩,tM ⟨#[115,116,111,114,101]⟩,tM ⟨#[103,105,118,101]⟩,tM ⟨#[116,97,107,101]⟩,tM ⟨#[115,101,116]⟩,tM ⟨#[110,101,119]⟩,tM ⟨#[102,114,101,101]⟩,tM ⟨#[105,115,110,117,108,108]⟩,tM ⟨#[99,97,108,108]⟩,tM ⟨#[106,117,109,112]⟩,tM ⟨#[98,114,97,110,99,104]⟩,tM ⟨#[114,101,116]⟩] 316)):=λc A=>
  ct (P:=ac) w 316 c #[tM ⟨#[110,117,109]⟩,tM ⟨#[110,117,108,108]⟩,tM ⟨#[99,111,112,121]⟩,tM ⟨#[98,105,110]⟩,tM ⟨#[103,101,116]⟩,tM ⟨#[112,117,116]⟩,tM ⟨#[108,111,97,100]⟩,tM ⟨#[115,116,111,114,101]⟩,tM ⟨#[103,105,118,101]⟩,tM ⟨#[116,97,107,101]⟩,tM ⟨#[115,101,116]⟩,tM ⟨#[110,101,119]⟩,tM ⟨#[102,114,101,101]⟩,tM ⟨#[105,115,110,117,108,108]⟩,tM ⟨#[99,97,108,108]⟩,tM ⟨#[106,117,109,112]⟩,tM ⟨#[98,114,97,110,99,104]⟩,tM ⟨#[114,101,116]⟩] (by show _=tB 18;kernel_rfl) A (by simp[cj])
 have ud:∀w,(Instr.build 316 #[(0,tM ⟨#[110,117,109]⟩),(1,tM ⟨#[110,117,108,108]⟩),(2,tM ⟨#[99,111,112,121]⟩),(3,tM ⟨#[98,105,110]⟩),(4,tM ⟨#[103,101,116]⟩),(5,tM ⟨#[112,117,116]⟩),(6,tM ⟨#[108,111,97,100]⟩),(7,tM ⟨#[115,116,111,114,101]⟩),(8,tM ⟨#[103,105,118,101]⟩),(9,tM ⟨#[116,97,107,101]⟩),(10,tM ⟨#[115,101,116]⟩),(11,tM ⟨#[110,101,119]⟩),(12,tM ⟨#[102,114,101,101]⟩),(13,tM ⟨#[105,115,110,117,108,108]⟩),(14,tM ⟨#[99,97,108,108]⟩),(15,tM ⟨#[106,117,109,112]⟩),(16,tM ⟨#[98,114,97,110,99,104]⟩),(17,tM ⟨#[114,101,116]⟩)]).run ac w= .ok (tW #[tM ⟨#[110,117,109]⟩,tM ⟨#[110,117,108,108]⟩,tM ⟨#[99,111,112,121]⟩,tM ⟨#[98,105,110]⟩,tM ⟨#[103,101,116]⟩,tM ⟨#[112,117,116]⟩,tM ⟨#[108,111,97,100]⟩,tM ⟨#[115,116,111,114,101]⟩,tM ⟨#[103,105,118,101]⟩,tM ⟨#[116,97,107,101]⟩,tM ⟨#[115,101,116]⟩,tM ⟨#[110,101,119]⟩,tM ⟨#[102,114,101,101]⟩,tM ⟨#[105,115,110,117,108,108]⟩,tM ⟨#[99,97,108,108]⟩,tM ⟨#[106,117,109,112]⟩,tM ⟨#[98,114,97,110,99,104]⟩,tM ⟨#[114,101,116]⟩]) w:=λw=>by kernel_rfl
 obtain⟨N,f⟩:=zE w.heap.size;obtain⟨u,q⟩:=zE (w.alloc (ua #[tM ⟨#[110,117,109]⟩,tM ⟨#[110,117,108,108]⟩,tM ⟨#[99,111,112,121]⟩,tM ⟨#[98,105,110]⟩,tM ⟨#[103,101,116]⟩,tM ⟨#[112,117,116]⟩,tM ⟨#[108,111,97,100]⟩,tM ⟨#[115,116,111,114,101]⟩,tM ⟨#[103,105,118,101]⟩,tM ⟨#[116,97,107,101]⟩,tM ⟨#[115,101,116]⟩,tM ⟨#[110,101,119]⟩,tM ⟨#[102,114,101,101]⟩,tM ⟨#[105,115,110,117,108,108]⟩,tM ⟨#[99,97,108,108]⟩,tM ⟨#[106,117,109,112]⟩,tM ⟨#[98,114,97,110,99,104]⟩,tM ⟨#[114,101,116]⟩] 316));have D:=iV q f;have d:=zH D;have v:=zH f;have ue:u.heap.size=N+1:=by rw[<-q];simp[f]
 have G:u.heap[N]?=tB (ua (qb.map fh).toArray 316 (0,0)):=by rw[<-q,<-f];exact alloc_at _ _
 rw[f,q] at hst;clear D
 by_cases J:op<1
 ·have h:cm (jk op=⟨#[]⟩):=cR (.inl J)
  go_enter func183,ntmps183;go_wp2;go_ret;rw[h.out];exact⟨rfl,by first|exact d.out|(rw[v.out];exact d.out)⟩
 by_cases h2:18<op
 ·have h:cm (jk op=⟨#[]⟩):=cR (.inr h2)
  go_enter func183,ntmps183;go_wp2;go_ret;rw[h.out];exact⟨rfl,by first|exact d.out|(rw[v.out];exact d.out)⟩
 obtain⟨k,s,hk,ur,uc,hw⟩:=wB J h2;have A:u.cell? ⟨N,k,tD⟩=tB (tM s):=by
  rw[cc _ _ _ _ _ _ G];simp[uc]
 have h:=zH hw;have uv:(k:bp)<18:=by omega
 clear G uc hw;go_enter func183,ntmps183;go_wp2;go_ret;rw[h.out];exact⟨rfl,by first|exact d.out|(rw[v.out];exact d.out)⟩
theorem qK (m:Mo)(g:Fn)(i:Ins)(w:World)(f:1<=i.op/\i.op<=14)(h:dQ w m g i):
  zP 189 #[tW (jg m g),tW i.cells] w (Z U (ay m g.vs i)):=by
 have d:i.op=1\/i.op=2\/i.op=3\/i.op=4\/i.op=5\/i.op=6\/i.op=7\/i.op=8\/i.op=9\/i.op=10\/i.op=11\/i.op=12\/i.op=13\/i.op=14:=by omega
 rcases d with e|e|e|e|e|e|e|e|e|e|e|e|e|e
 ·exact FH m g i w e h
 ·exact FN m g i w e h
 ·exact FK m g i w e h
 ·exact FT m g i w e h
 ·exact FI m g i w e h
 ·exact FJ m g i w e h
 ·exact FO m g i w e h
 ·exact FP m g i w e h
 ·exact FQ m g i w e h
 ·exact Ey m g i w e h
 ·exact Ez m g i w e h
 ·exact EA m g i w e h
 ·exact Ew m g i w e h
 ·exact EB m g i w e h
structure FU (w:World)(m:Mo)(g:Fn)(i:Ins):Prop where
 j:oJ w m g
 ar:i.args_in w
 al:i.args.length<=40
 kn:∀v,isVar g.vs.length v=tE->m.known (az g.vs v)=tE
theorem kR {d W:World}{N:bx}(f:bh d.heap.size d W){o:Obj}(h:d.heap[N]?=tB o):W.heap[N]?=tB o:=
 (f.block N (bj.1 h).1).trans h
theorem oL (op:bp):(jk op).toList.isEmpty=(decide (op<1)||decide (18<op)):=by
 rw[<-zF,fY];have e:(⟨#[]⟩:aE).toList=[]:=by rw[pi]
 rw[e];cases (jk op).toList<;>rfl
def jl (w5:World)(N:bx)(m:Mo)(g:Fn)(i:Ins):Prop:=∀W,bh w5.heap.size w5 W->W.heap[N]?=tB (ua (jg m g) 184 (0,0))/\W.heap[N+1]?=tB (ua i.cells 42 (0,0))
theorem jl.next {w5 d:World}{N:bx}{m:Mo}{g:Fn}{i:Ins}(h:jl w5 N m g i)(f:bh w5.heap.size w5 d):jl d N m g i:=λW q=>h W (f.trans (q.mono f.size))
theorem jl.lt {w5:World}{N:bx}{m:Mo}{g:Fn}{i:Ins}(h:jl w5 N m g i):N+1<w5.heap.size:=(bj.1 (h w5 (aq _ _)).2).1
def dV (m:Mo)(g:Fn)(i:Ins):bp:=
 if i.op=15 then iG m g.vs i
 else if i.op=16 then bM (isVar g.c.ins.length i.tI) 15
 else if i.op=17 then(if isVar g.c.ins.length i.tI&&isVar g.c.ins.length i.els then dX g.vs [i.a] else 15)
 else if i.op=18 then bM (az g.vs i.a==g.ret) 7
 else ay m g.vs i
theorem xV {m:Mo}{g:Fn}{i:Ins}(h:¬(i.op<1\/18<i.op)):aD m g i=if aJ g.vs.length (readsOf i++(if nZ i.op then[i.d] else[]))=tG then 15 else dV m g i:=cE h
theorem wF {n:bx}{l:bm bp}(h:aJ n l=tE){v:bp}(d:v∈l):isVar n v=tE:=js.1 h v d
theorem qc {i:Ins}{l:bm bp}(h:oH i.op=tE):i.a∈readsOf i++l:=by unfold readsOf;rw[cR h];simp
theorem EC {i:Ins}{l:bm bp}(h:rz i.op=tE):i.b∈readsOf i++l:=by unfold readsOf;rw[cR h];simp
theorem wG {i:Ins}{l:bm bp}(h:i.op=15){a:bp}(d:a∈i.args):a∈readsOf i++l:=by unfold readsOf;rw[cR h];simp[d]
theorem Cu {i:Ins}(h:nZ i.op=tE):i.d∈readsOf i++(if nZ i.op then[i.d] else[]):=by rw[cR h];simp
theorem zG (m:Mo)(g:Fn)(i:Ins)(w:World)(h:FU w m g i):
  zP 136 #[tW (jg m g),tW i.cells] w (Z U (aD m g i)):=by
 have vc:=zH h;obtain⟨R,hR⟩:=zE (aD m g i);rw[hR];have HR:=zH hR;clear h hR;obtain⟨N,hN⟩:=zE w.heap.size;obtain⟨W1,zd⟩:=zE ((w.alloc (ua (jg m g) 184)).alloc (ua i.cells 42));have AN:=uF zd hN;have Cd:W1.heap.size=N+2:=by rw[<-zd];simp[hN]
 have AS:=yP zd hN;have zv:=AO zd hN;have i0:=zR zv 0 (Z U i.op);have zj:cm (jl W1 N m g i):=λW hW=>⟨kR hW AS,kR hW zv⟩
 have An:=zH AN;have D:=zH hN;have Cl:N+1<W1.heap.size:=by omega
 clear AN AS zv
 by_cases xr:i.op<1\/18<i.op
 ·have u:cm (R=3):=by unfold cm;rw[<-HR.out];exact cR xr
  have As:(jk i.op).toList.isEmpty=tE:=by rw[oL];simpa using xr
  clear xr;go_enter func136,ntmps136
  go_wp2_with (go_at_call 183;refine(kQ _ _).mono ?_;rintro e w2 ⟨rfl,wg⟩;have wi:=zH wg;clear wg)
  go_ret;rw[u.out,D.out];exact⟨rfl,An.out.trans (wi.out.mono (by omega))⟩
 have vm:=zH (xV (m:=m) (g:=g) xr);rw[HR.out] at vm;have AT:=zH xr;have As:(jk i.op).toList.isEmpty=tG:=by
  rw[oL,cL (by omega),cL (by omega)];rfl
 clear xr HR;have yb:cm (∀W,bh w.heap.size w W->gd ac 144 #[tW i.cells] W (lJ W (readsOf i))):=λW hW=>vg i W (vc.out.ar.below hW) vc.out.al;have xt:cm (∀W,zP 142 #[tW i.cells] W (.tuple #[Z U (aX i).1,tU (aX i).2])):=λW=>sj i W vc.out.ar.1;have xF:cm ((readsOf i).length<=42):=zt i vc.out.al;obtain⟨rs,At⟩:=zE (readsOf i);have zp:=zH At;rw[At] at yb xF;clear At;go_enter func136,ntmps136;cases hd:nZ i.op with
 |true=>
  have e1:(aX i).1=i.d:=by unfold aX;rw[hd];rfl
  have e2:(aX i).2=tE:=by unfold aX;rw[hd];rfl
  rw[e1,e2] at xt;clear e1 e2
  go_upto_region 6 with(first
   |(go_at_call 183;refine(kQ _ _).mono ?_;rintro e w2 ⟨rfl,wg⟩;have vp:=zH (zj.out.next wg);have wi:cm (bh N w w2):=An.out.trans (wg.mono (by omega));clear wg)
   |(refine ci rfl 42 _ rfl (N+1) rfl 42 i.cells (0,0) _ ((vp.out _ (aq _ _)).2) cJ rfl (by kernel_rfl) ?_)
   |(refine ci rfl 42 _ rfl (N+1) rfl 42 i.cells (0,0) _ ((wj.out _ (aq _ _)).2) cJ rfl (by kernel_rfl) ?_)
   |(go_at_call 144;refine(yb.out _ (by rw[D.out];exact wi.out)).mono ?_;rintro e w3 ⟨yd,ye,rfl,yi,wk⟩;have yk:=zH yi;have wj:=zH (vp.out.next wk);have yp:cm (bh N w w3):=wi.out.trans (wk.mono (by have:=vp.out.lt;omega));have A6:=wk.size;clear wk yi)
   |(go_at_call 142;refine(xt.out _).mono ?_;rintro e w4 ⟨rfl,vq⟩;have AW:=zH (wj.out.next vq);have xT:=zH (ownsRow_below yk.out vq);have A0:cm (bh N w w4):=yp.out.trans (vq.mono (by have:=wj.out.lt;omega));have Bk:=vq.size;clear vq))
  go_upto_region 7 with(at_builtin;refine aP rfl (.tmp 20) (.tmp 22) rfl w2.heap.size (tP yd rs.length ye) rs rfl (ownsRow_below xT.out ((aq _ _).alloc (ce _) _)) _ [i.d] 1 rfl (aA.one _ _ rfl) ?c1 ?c2 ?_)
  case c1=>have:=xF.out;simp;omega
  case c2=>simp;omega
  intro v5 w5 zr A2;obtain⟨A4,A5,rfl⟩:=zr.isSlice;have ya:bh w2.heap.size w4 w5:=below_grown (v:= tP yd rs.length ye) (xs:=rs) ((aq _ _).alloc (by omega) _) (by simp;omega) (ownsRow_below xT.out ((aq _ _).alloc (ce _) _)) A2;have Bm:=vp.out.lt;have wx:cm (bh N w w5):=A0.out.trans (ya.mono (by omega));have xf:cm (jl w5 N m g i):=λW hW=>by
   have q:=AW.out w4 (aq _ _);have h5:=ya.size;exact⟨(hW.block N (by omega)).trans ((ya.block N (by omega)).trans q.1),(hW.block (N+1) (by omega)).trans ((ya.block (N+1) (by omega)).trans q.2)⟩
  have By:=ya.size;obtain⟨L5,yq⟩:=zE (rs++[i.d]);rw[yq] at zr;have HL:cm (L5=readsOf i++(if nZ i.op then[i.d] else[])):=by unfold cm;rw[hd,zp.out,<-yq];rfl
  have wl:cm (zP 184 #[tW (jg m g),tP A4 L5.length A5] w5 (tU (aJ g.vs.length L5))):=
   qJ m g A4 L5 A5 w5 vc.out.j.nv (by have:=xF.out;rw[<-yq];unfold dT;simp;omega) zr.at_
  rw[<-HL.out] at vm;rw[yq];have BE:=zH hd;clear zr A2 ya yk xT vp wj AW zj wi yp A0 yq yb xt xF zp As i0 hd;have xj:=zH (xf.out w5 (aq _ _));obtain⟨tb,ws⟩:=zE (aJ g.vs.length L5);rw[ws] at wl;rw[ws] at vm;have yr:=zH ws;clear ws;cases tb with
  |false=>
   have u:cm (R=15):=vm.out
   go_wp2_with (first
    |(refine ci rfl 184 _ rfl N rfl 184 (jg m g) (0,0) _ (xj.out.1) cI rfl (by kernel_rfl) ?_)
    |(go_at_call 184;refine wl.out.mono ?_;rintro e f ⟨rfl,vr⟩;have vu:=zH vr;clear vr))
   go_ret;rw[u.out,D.out];exact⟨rfl,wx.out.trans (vu.out.mono (by omega))⟩
  |true=>
   have uc:cm (R=dV m g i):=vm.out;clear vm
   go_upto_region 9 with(first
    |(refine ci rfl 184 _ rfl N rfl 184 (jg m g) (0,0) _ (xj.out.1) cI rfl (by kernel_rfl) ?_)
    |(go_at_call 184;refine wl.out.mono ?_;rintro e f ⟨rfl,vr⟩;have vu:=zH vr;clear vr))
   have vx:cm (jl f N m g i):=xf.out.next vu.out
   have ux:cm (bh N w f):=wx.out.trans (vu.out.mono (by omega));have BT:=vx.out.lt;have ud:=zH (vx.out f (aq _ _));have vy:cm (oJ f m g):=vc.out.j.below (by rw[D.out];exact ux.out);have z0:=zR ud.out.2 0 (Z U i.op);have z2:=zR ud.out.2 2 (Z U i.a);have z9:=zR ud.out.2 9 (Z U i.tI);have yv:=zR ud.out.2 10 (Z U i.els);have vd:cm (∀v∈L5,isVar g.vs.length v=tE):=λv hv=>wF yr.out hv;clear xf wl vu wx xj yr
   by_cases ue:i.op=15
   ·have u:cm (R=iG m g.vs i):=by unfold cm;rw[uc.out];exact cR ue
    have Ax:cm (zP 185 #[tW (jg m g),tW i.cells] f (Z U (iG m g.vs i))):=
     sF m g i f vy.out (vc.out.ar.below (by rw[D.out];exact ux.out)) (by have:=vc.out.al;unfold dT;omega) (vd.out _ (by rw[HL.out];exact Cu (by rw[ue];rfl))) (λa ha=>vd.out a (by rw[HL.out];exact wG ue ha))
    rw[ue] at z0;clear uc
    go_wp2_with (first
     |(refine ci rfl 184 _ rfl N rfl 184 (jg m g) (0,0) _ (ud.out.1) cI rfl (by kernel_rfl) ?_)
     |(refine ci rfl 42 _ rfl (N+1) rfl 42 i.cells (0,0) _ (ud.out.2) cJ rfl (by kernel_rfl) ?_)
     |(go_at_call 185;refine Ax.out.mono ?_;rintro e A ⟨rfl,J⟩;have vf:=zH J;clear J))
    go_ret;rw[u.out,D.out];exact⟨rfl,ux.out.trans (vf.out.mono (by omega))⟩
   have BY:(i.op==15)=tG:=by rw[dp];exact ue
   by_cases vh:i.op=16
   ·have u:cm (R=bM (isVar g.c.ins.length i.tI) 15):=by unfold cm;rw[uc.out];unfold dV;rw[cE ue,cR vh]
    rw[vh] at z0;clear uc
    go_wp2_with (first
     |(refine ci rfl 184 _ rfl N rfl 184 (jg m g) (0,0) _ (ud.out.1) cI rfl (by kernel_rfl) ?_)
     |(go_at_call 186;refine(gP m g i.tI f).mono ?_;rintro e A ⟨rfl,J⟩;have vf:=zH J;clear J)
     |(go_at_call 99;refine(aF _ _ _).mono ?_;rintro e w8 ⟨rfl,rfl⟩))
    go_ret;rw[u.out,D.out];exact⟨rfl,ux.out.trans (vf.out.mono (by omega))⟩
   have B4:(i.op==16)=tG:=by rw[dp];exact vh
   by_cases vi:i.op=17
   ·have u:cm (R=if isVar g.c.ins.length i.tI&&isVar g.c.ins.length i.els then dX g.vs [i.a] else 15):=by unfold cm;rw[uc.out];unfold dV;rw[cE ue,cE vh,cR vi]
    have xl:cm (isVar g.vs.length i.a=tE):=vd.out _ (by rw[HL.out];exact qc (by rw[vi];rfl));rw[vi] at z0;obtain⟨t1,AD⟩:=zE (isVar g.c.ins.length i.tI);obtain⟨t2,AE⟩:=zE (isVar g.c.ins.length i.els);rw[AD,AE] at u;clear uc;cases t1 with
    |false=>
     go_wp2_with (first
      |(refine ci rfl 184 _ rfl N rfl 184 (jg m g) (0,0) _ (ud.out.1) cI rfl (by kernel_rfl) ?_)
      |(go_at_call 186;refine(gP m g _ _).mono ?_;rintro e A ⟨rfl,J⟩;have vf:=zH J;clear J))
     go_ret;rw[u.out,D.out];exact⟨rfl,ux.out.trans (vf.out.mono (by omega))⟩
    |true=>
     have yy:cm (∀(W:World)(v:bp),jl W N m g i->bh N w W->gd ac 186 #[tW (jg m g),Z U v] W λe w'=>e= ub (tU (isVar g.c.ins.length v))/\jl w' N m g i/\bh N w w'):=λW v hW hB=>(gP m g v W).mono (by
      rintro e w' ⟨rfl,hb⟩;exact⟨rfl,hW.next hb,hB.trans (hb.mono (by have:=hW.lt;omega))⟩)
     have uv:=vx;have va:=ux;cases t2 with
     |false=>
      go_wp2_with (first
       |(refine ci rfl 184 _ rfl N rfl 184 (jg m g) (0,0) _ ((uv.out _ (aq _ _)).1) cI rfl (by kernel_rfl) ?_)
       |(go_at_call 186;refine(yy.out _ _ uv.out va.out).mono ?_;clear uv va;rintro e A ⟨rfl,G,we⟩;have AF:=G.lt;obtain⟨y0,y1,y2,y3,y4,y5,y6,y7,y8,y9⟩:=jC.of (G A (aq _ _)).1;have yv:A.cell? ⟨N+1,10,tD⟩=tB (Z U i.els):=cc _ _ _ _ _ _ (G A (aq _ _)).2;have uv:=zH G;have va:=zH we;clear G we))
      go_ret;rw[u.out,D.out];exact⟨rfl,va.out⟩
     |true=>
      have AG:cm (∀(W:World),jl W N m g i->bh N w W->gd ac 187 #[tW (jg m g),tP (tB ⟨W.heap.size,0,tD⟩) 1 1] (W.alloc (ua #[Z U i.a] 3)) λe w'=>e= ub (Z U (dX g.vs [i.a]))/\bh N w w'):=by
       intro W hW hB;have yW:bh N w (W.alloc (ua #[Z U i.a] 3)):=hB.alloc (by have:=hW.lt;omega) _;have hj:=vc.out.j.below (by rw[D.out];exact yW);refine(dA m g (tB ⟨W.heap.size,0,tD⟩) [i.a] 1 (W.alloc (ua #[Z U i.a] 3)) hj.vars hj.nv hj.vl (by unfold dT;simp) zC (by simp;exact xl.out)).mono ?_;rintro e w' ⟨rfl,hb⟩;exact⟨rfl,yW.trans (hb.mono (by have:=hW.lt;simp;omega))⟩
      go_wp2_with (first
       |(refine ci rfl 184 _ rfl N rfl 184 (jg m g) (0,0) _ ((uv.out _ (aq _ _)).1) cI rfl (by kernel_rfl) ?_)
       |(go_at_call 186;refine(yy.out _ _ uv.out va.out).mono ?_;clear uv va;rintro e A ⟨rfl,G,we⟩;have AF:=G.lt;obtain⟨y0,y1,y2,y3,y4,y5,y6,y7,y8,y9⟩:=jC.of (G A (aq _ _)).1;have yv:A.cell? ⟨N+1,10,tD⟩=tB (Z U i.els):=cc _ _ _ _ _ _ (G A (aq _ _)).2;have z2:A.cell? ⟨N+1,2,tD⟩=tB (Z U i.a):=cc _ _ _ _ _ _ (G A (aq _ _)).2;have uv:=zH G;have va:=zH we;clear G we)
       |(go_at_call 187;refine(AG.out _ uv.out va.out).mono ?_;rintro e w9 ⟨rfl,zc⟩;have AH:=zH zc;clear zc))
      go_ret;rw[u.out,D.out];exact⟨rfl,AH.out⟩
   have B5:(i.op==17)=tG:=by rw[dp];exact vi
   by_cases vj:i.op=18
   ·have u:cm (R=bM (az g.vs i.a==g.ret) 7):=by unfold cm;rw[uc.out];unfold dV;rw[cE ue,cE vh,cE vi,cR vj]
    have xl:cm (isVar g.vs.length i.a=tE):=vd.out _ (by rw[HL.out];exact qc (by rw[vj];rfl));rw[vj] at z0;obtain⟨⟨ba,sa⟩,xo⟩:∃t,az g.vs i.a=t:=⟨_,rfl⟩
    obtain⟨d,xp⟩:=zE (((ba,sa):Ty)==(g.c.rp,g.c.rto));have B6:∀w,(gE 10000 32 (tW #[tU ba,tM sa]) (tW #[tU g.c.rp,tM g.c.rto])).run ac w= .ok d w:=λw=>by rw[dH,xp]
    have AI:cm (R=bM d 7):=by unfold cm;rw[u.out,xo,<-xp];rfl
    have AK:cm (∀p:BW f,zP 188 #[tW #[tP m.sA m.ss.length m.sC,tP m.fA m.fs.length m.fC,tM g.c.nm,Z U g.c.par,tP g.c.varsA g.c.nvars g.c.varsC,tU g.c.rp,tM g.c.rto,Z U g.c.rcl,tP g.c.fromA g.c.nfrom g.c.fromC,tP g.c.insA g.c.ins.length g.c.insC],Z U i.a] p.w (tW #[tU ba,tM sa])):=λp=>by
     have:=gN m g i.a p.w (vy.out.below p.h).vars vy.out.nv vy.out.vl xl.out;rw[xo] at this;exact this
    have ur:cm (∀p:BW f,jC p.w N m g):=λp=>jC.of (vx.out p.w p.h).1;have k0:∀p:BW f,p.w.cell? ⟨N,0,tD⟩=tB (tP m.sA m.ss.length m.sC):=λp=>(ur.out p).1;have k1:∀p:BW f,p.w.cell? ⟨N,1,tD⟩=tB (tP m.fA m.fs.length m.fC):=λp=>(ur.out p).2.1;have k2:∀p:BW f,p.w.cell? ⟨N,2,tD⟩=tB (tM g.c.nm):=λp=>(ur.out p).2.2.1;have k3:∀p:BW f,p.w.cell? ⟨N,3,tD⟩=tB (Z U g.c.par):=λp=>(ur.out p).2.2.2.1;have k4:∀p:BW f,p.w.cell? ⟨N,4,tD⟩=tB (tP g.c.varsA g.c.nvars g.c.varsC):=λp=>(ur.out p).2.2.2.2.1;have k5:∀p:BW f,p.w.cell? ⟨N,5,tD⟩=tB (tU g.c.rp):=λp=>(ur.out p).2.2.2.2.2.1;have k6:∀p:BW f,p.w.cell? ⟨N,6,tD⟩=tB (tM g.c.rto):=λp=>(ur.out p).2.2.2.2.2.2.1;have k7:∀p:BW f,p.w.cell? ⟨N,7,tD⟩=tB (Z U g.c.rcl):=λp=>(ur.out p).2.2.2.2.2.2.2.1;have k8:∀p:BW f,p.w.cell? ⟨N,8,tD⟩=tB (tP g.c.fromA g.c.nfrom g.c.fromC):=λp=>(ur.out p).2.2.2.2.2.2.2.2.1;have k9:∀p:BW f,p.w.cell? ⟨N,9,tD⟩=tB (tP g.c.insA g.c.ins.length g.c.insC):=λp=>(ur.out p).2.2.2.2.2.2.2.2.2;have B8:∀p:BW f,p.w.cell? ⟨N+1,2,tD⟩=tB (Z U i.a):=λp=>by rw[cc _ _ _ _ _ _ (vx.out p.w p.h).2];rfl
    clear uc xo xp u;go_wp2;refine zQ ?_
    repeat (go_big_quiet_step (first
     |(go_at_call 188;exact aW (AK.out _))
     |(go_at_call 99;exact jF (aF _ _ _))))
    refine eh ?_;rintro _ ⟨p,rfl⟩;go_wp2;go_ret;rw[AI.out,D.out];exact⟨rfl,ux.out.trans (p.h.mono (by omega))⟩
   have B9:(i.op==18)=tG:=by rw[dp];exact vj
   have u:cm (R=ay m g.vs i):=by unfold cm;rw[uc.out];unfold dV;rw[cE ue,cE vh,cE vi,cE vj]
   have AM:cm (zP 189 #[tW (jg m g),tW i.cells] f (Z U (ay m g.vs i))):=
    qK m g i f (by have:=AT.out;omega) ⟨vy.out,λh=>vd.out _ (by rw[HL.out];exact Cu h),λh=>vd.out _ (by rw[HL.out];exact qc h),λh=>vd.out _ (by rw[HL.out];exact EC h),vc.out.kn⟩
   clear uc ue vh vi vj
   go_wp2_with (first
    |(refine ci rfl 184 _ rfl N rfl 184 (jg m g) (0,0) _ (ud.out.1) cI rfl (by kernel_rfl) ?_)
    |(refine ci rfl 42 _ rfl (N+1) rfl 42 i.cells (0,0) _ (ud.out.2) cJ rfl (by kernel_rfl) ?_)
    |(go_at_call 189;refine AM.out.mono ?_;rintro e A ⟨rfl,J⟩;have vf:=zH J;clear J))
   go_ret;rw[u.out,D.out];exact⟨rfl,ux.out.trans (vf.out.mono (by omega))⟩
 |false=>
  have e1:(aX i).1=0:=by unfold aX;rw[hd];rfl
  have e2:(aX i).2=tG:=by unfold aX;rw[hd];rfl
  rw[e1,e2] at xt;clear e1 e2
  go_upto_region 7 with(first
   |(go_at_call 183;refine(kQ _ _).mono ?_;rintro e w2 ⟨rfl,wg⟩;have vp:=zH (zj.out.next wg);have wi:cm (bh N w w2):=An.out.trans (wg.mono (by omega));clear wg)
   |(refine ci rfl 42 _ rfl (N+1) rfl 42 i.cells (0,0) _ ((vp.out _ (aq _ _)).2) cJ rfl (by kernel_rfl) ?_)
   |(refine ci rfl 42 _ rfl (N+1) rfl 42 i.cells (0,0) _ ((wj.out _ (aq _ _)).2) cJ rfl (by kernel_rfl) ?_)
   |(go_at_call 144;refine(yb.out _ (by rw[D.out];exact wi.out)).mono ?_;rintro e w3 ⟨yd,ye,rfl,yi,wk⟩;have yk:=zH yi;have wj:=zH (vp.out.next wk);have yp:cm (bh N w w3):=wi.out.trans (wk.mono (by have:=vp.out.lt;omega));have A6:=wk.size;clear wk yi)
   |(go_at_call 142;refine(xt.out _).mono ?_;rintro e w5 ⟨rfl,vq⟩;have xf:=zH (wj.out.next vq);have xT:=zH (ownsRow_below yk.out vq);have wx:cm (bh N w w5):=yp.out.trans (vq.mono (by have:=wj.out.lt;omega));have Bk:=vq.size;clear vq))
  have HL:cm (rs=readsOf i++(if nZ i.op then[i.d] else[])):=by unfold cm;rw[hd,zp.out];simp
  have wl:cm (zP 184 #[tW (jg m g),tP yd rs.length ye] w5 (tU (aJ g.vs.length rs))):=
   qJ m g yd rs ye w5 vc.out.j.nv (by have:=xF.out;unfold dT;omega) (aT.at_ xT.out)
  rw[<-HL.out] at vm;have BE:=zH hd;have Bm:=vp.out.lt;have By:w2.heap.size<=w5.heap.size:=by omega
  clear yk xT vp wj zj wi yp yb xt xF zp As i0 hd;have xj:=zH (xf.out w5 (aq _ _));obtain⟨tb,ws⟩:=zE (aJ g.vs.length rs);rw[ws] at wl;rw[ws] at vm;have yr:=zH ws;clear ws;cases tb with
  |false=>
   have u:cm (R=15):=vm.out
   go_wp2_with (first
    |(refine ci rfl 184 _ rfl N rfl 184 (jg m g) (0,0) _ (xj.out.1) cI rfl (by kernel_rfl) ?_)
    |(go_at_call 184;refine wl.out.mono ?_;rintro e f ⟨rfl,vr⟩;have vu:=zH vr;clear vr))
   go_ret;rw[u.out,D.out];exact⟨rfl,wx.out.trans (vu.out.mono (by omega))⟩
  |true=>
   have uc:cm (R=dV m g i):=vm.out;clear vm
   go_upto_region 9 with(first
    |(refine ci rfl 184 _ rfl N rfl 184 (jg m g) (0,0) _ (xj.out.1) cI rfl (by kernel_rfl) ?_)
    |(go_at_call 184;refine wl.out.mono ?_;rintro e f ⟨rfl,vr⟩;have vu:=zH vr;clear vr))
   have vx:cm (jl f N m g i):=xf.out.next vu.out
   have ux:cm (bh N w f):=wx.out.trans (vu.out.mono (by omega));have BT:=vx.out.lt;have ud:=zH (vx.out f (aq _ _));have vy:cm (oJ f m g):=vc.out.j.below (by rw[D.out];exact ux.out);have z0:=zR ud.out.2 0 (Z U i.op);have z2:=zR ud.out.2 2 (Z U i.a);have z9:=zR ud.out.2 9 (Z U i.tI);have yv:=zR ud.out.2 10 (Z U i.els);have vd:cm (∀v∈rs,isVar g.vs.length v=tE):=λv hv=>wF yr.out hv;clear xf wl vu wx xj yr
   by_cases ue:i.op=15
   ·have u:cm (R=iG m g.vs i):=by unfold cm;rw[uc.out];exact cR ue
    have Ax:cm (zP 185 #[tW (jg m g),tW i.cells] f (Z U (iG m g.vs i))):=
     sF m g i f vy.out (vc.out.ar.below (by rw[D.out];exact ux.out)) (by have:=vc.out.al;unfold dT;omega) (vd.out _ (by rw[HL.out];exact Cu (by rw[ue];rfl))) (λa ha=>vd.out a (by rw[HL.out];exact wG ue ha))
    rw[ue] at z0;clear uc
    go_wp2_with (first
     |(refine ci rfl 184 _ rfl N rfl 184 (jg m g) (0,0) _ (ud.out.1) cI rfl (by kernel_rfl) ?_)
     |(refine ci rfl 42 _ rfl (N+1) rfl 42 i.cells (0,0) _ (ud.out.2) cJ rfl (by kernel_rfl) ?_)
     |(go_at_call 185;refine Ax.out.mono ?_;rintro e A ⟨rfl,J⟩;have vf:=zH J;clear J))
    go_ret;rw[u.out,D.out];exact⟨rfl,ux.out.trans (vf.out.mono (by omega))⟩
   have BY:(i.op==15)=tG:=by rw[dp];exact ue
   by_cases vh:i.op=16
   ·have u:cm (R=bM (isVar g.c.ins.length i.tI) 15):=by unfold cm;rw[uc.out];unfold dV;rw[cE ue,cR vh]
    rw[vh] at z0;clear uc
    go_wp2_with (first
     |(refine ci rfl 184 _ rfl N rfl 184 (jg m g) (0,0) _ (ud.out.1) cI rfl (by kernel_rfl) ?_)
     |(go_at_call 186;refine(gP m g i.tI f).mono ?_;rintro e A ⟨rfl,J⟩;have vf:=zH J;clear J)
     |(go_at_call 99;refine(aF _ _ _).mono ?_;rintro e w8 ⟨rfl,rfl⟩))
    go_ret;rw[u.out,D.out];exact⟨rfl,ux.out.trans (vf.out.mono (by omega))⟩
   have B4:(i.op==16)=tG:=by rw[dp];exact vh
   by_cases vi:i.op=17
   ·have u:cm (R=if isVar g.c.ins.length i.tI&&isVar g.c.ins.length i.els then dX g.vs [i.a] else 15):=by unfold cm;rw[uc.out];unfold dV;rw[cE ue,cE vh,cR vi]
    have xl:cm (isVar g.vs.length i.a=tE):=vd.out _ (by rw[HL.out];exact qc (by rw[vi];rfl));rw[vi] at z0;obtain⟨t1,AD⟩:=zE (isVar g.c.ins.length i.tI);obtain⟨t2,AE⟩:=zE (isVar g.c.ins.length i.els);rw[AD,AE] at u;clear uc;cases t1 with
    |false=>
     go_wp2_with (first
      |(refine ci rfl 184 _ rfl N rfl 184 (jg m g) (0,0) _ (ud.out.1) cI rfl (by kernel_rfl) ?_)
      |(go_at_call 186;refine(gP m g _ _).mono ?_;rintro e A ⟨rfl,J⟩;have vf:=zH J;clear J))
     go_ret;rw[u.out,D.out];exact⟨rfl,ux.out.trans (vf.out.mono (by omega))⟩
    |true=>
     have yy:cm (∀(W:World)(v:bp),jl W N m g i->bh N w W->gd ac 186 #[tW (jg m g),Z U v] W λe w'=>e= ub (tU (isVar g.c.ins.length v))/\jl w' N m g i/\bh N w w'):=λW v hW hB=>(gP m g v W).mono (by
      rintro e w' ⟨rfl,hb⟩;exact⟨rfl,hW.next hb,hB.trans (hb.mono (by have:=hW.lt;omega))⟩)
     have uv:=vx;have va:=ux;cases t2 with
     |false=>
      go_wp2_with (first
       |(refine ci rfl 184 _ rfl N rfl 184 (jg m g) (0,0) _ ((uv.out _ (aq _ _)).1) cI rfl (by kernel_rfl) ?_)
       |(go_at_call 186;refine(yy.out _ _ uv.out va.out).mono ?_;clear uv va;rintro e A ⟨rfl,G,we⟩;have AF:=G.lt;obtain⟨y0,y1,y2,y3,y4,y5,y6,y7,y8,y9⟩:=jC.of (G A (aq _ _)).1;have yv:A.cell? ⟨N+1,10,tD⟩=tB (Z U i.els):=cc _ _ _ _ _ _ (G A (aq _ _)).2;have uv:=zH G;have va:=zH we;clear G we))
      go_ret;rw[u.out,D.out];exact⟨rfl,va.out⟩
     |true=>
      have AG:cm (∀(W:World),jl W N m g i->bh N w W->gd ac 187 #[tW (jg m g),tP (tB ⟨W.heap.size,0,tD⟩) 1 1] (W.alloc (ua #[Z U i.a] 3)) λe w'=>e= ub (Z U (dX g.vs [i.a]))/\bh N w w'):=by
       intro W hW hB;have yW:bh N w (W.alloc (ua #[Z U i.a] 3)):=hB.alloc (by have:=hW.lt;omega) _;have hj:=vc.out.j.below (by rw[D.out];exact yW);refine(dA m g (tB ⟨W.heap.size,0,tD⟩) [i.a] 1 (W.alloc (ua #[Z U i.a] 3)) hj.vars hj.nv hj.vl (by unfold dT;simp) zC (by simp;exact xl.out)).mono ?_;rintro e w' ⟨rfl,hb⟩;exact⟨rfl,yW.trans (hb.mono (by have:=hW.lt;simp;omega))⟩
      go_wp2_with (first
       |(refine ci rfl 184 _ rfl N rfl 184 (jg m g) (0,0) _ ((uv.out _ (aq _ _)).1) cI rfl (by kernel_rfl) ?_)
       |(go_at_call 186;refine(yy.out _ _ uv.out va.out).mono ?_;clear uv va;rintro e A ⟨rfl,G,we⟩;have AF:=G.lt;obtain⟨y0,y1,y2,y3,y4,y5,y6,y7,y8,y9⟩:=jC.of (G A (aq _ _)).1;have yv:A.cell? ⟨N+1,10,tD⟩=tB (Z U i.els):=cc _ _ _ _ _ _ (G A (aq _ _)).2;have z2:A.cell? ⟨N+1,2,tD⟩=tB (Z U i.a):=cc _ _ _ _ _ _ (G A (aq _ _)).2;have uv:=zH G;have va:=zH we;clear G we)
       |(go_at_call 187;refine(AG.out _ uv.out va.out).mono ?_;rintro e w9 ⟨rfl,zc⟩;have AH:=zH zc;clear zc))
      go_ret;rw[u.out,D.out];exact⟨rfl,AH.out⟩
   have B5:(i.op==17)=tG:=by rw[dp];exact vi
   by_cases vj:i.op=18
   ·have u:cm (R=bM (az g.vs i.a==g.ret) 7):=by unfold cm;rw[uc.out];unfold dV;rw[cE ue,cE vh,cE vi,cR vj]
    have xl:cm (isVar g.vs.length i.a=tE):=vd.out _ (by rw[HL.out];exact qc (by rw[vj];rfl));rw[vj] at z0;obtain⟨⟨ba,sa⟩,xo⟩:∃t,az g.vs i.a=t:=⟨_,rfl⟩
    obtain⟨d,xp⟩:=zE (((ba,sa):Ty)==(g.c.rp,g.c.rto));have B6:∀w,(gE 10000 32 (tW #[tU ba,tM sa]) (tW #[tU g.c.rp,tM g.c.rto])).run ac w= .ok d w:=λw=>by rw[dH,xp]
    have AI:cm (R=bM d 7):=by unfold cm;rw[u.out,xo,<-xp];rfl
    have AK:cm (∀p:BW f,zP 188 #[tW #[tP m.sA m.ss.length m.sC,tP m.fA m.fs.length m.fC,tM g.c.nm,Z U g.c.par,tP g.c.varsA g.c.nvars g.c.varsC,tU g.c.rp,tM g.c.rto,Z U g.c.rcl,tP g.c.fromA g.c.nfrom g.c.fromC,tP g.c.insA g.c.ins.length g.c.insC],Z U i.a] p.w (tW #[tU ba,tM sa])):=λp=>by
     have:=gN m g i.a p.w (vy.out.below p.h).vars vy.out.nv vy.out.vl xl.out;rw[xo] at this;exact this
    have ur:cm (∀p:BW f,jC p.w N m g):=λp=>jC.of (vx.out p.w p.h).1;have k0:∀p:BW f,p.w.cell? ⟨N,0,tD⟩=tB (tP m.sA m.ss.length m.sC):=λp=>(ur.out p).1;have k1:∀p:BW f,p.w.cell? ⟨N,1,tD⟩=tB (tP m.fA m.fs.length m.fC):=λp=>(ur.out p).2.1;have k2:∀p:BW f,p.w.cell? ⟨N,2,tD⟩=tB (tM g.c.nm):=λp=>(ur.out p).2.2.1;have k3:∀p:BW f,p.w.cell? ⟨N,3,tD⟩=tB (Z U g.c.par):=λp=>(ur.out p).2.2.2.1;have k4:∀p:BW f,p.w.cell? ⟨N,4,tD⟩=tB (tP g.c.varsA g.c.nvars g.c.varsC):=λp=>(ur.out p).2.2.2.2.1;have k5:∀p:BW f,p.w.cell? ⟨N,5,tD⟩=tB (tU g.c.rp):=λp=>(ur.out p).2.2.2.2.2.1;have k6:∀p:BW f,p.w.cell? ⟨N,6,tD⟩=tB (tM g.c.rto):=λp=>(ur.out p).2.2.2.2.2.2.1;have k7:∀p:BW f,p.w.cell? ⟨N,7,tD⟩=tB (Z U g.c.rcl):=λp=>(ur.out p).2.2.2.2.2.2.2.1;have k8:∀p:BW f,p.w.cell? ⟨N,8,tD⟩=tB (tP g.c.fromA g.c.nfrom g.c.fromC):=λp=>(ur.out p).2.2.2.2.2.2.2.2.1;have k9:∀p:BW f,p.w.cell? ⟨N,9,tD⟩=tB (tP g.c.insA g.c.ins.length g.c.insC):=λp=>(ur.out p).2.2.2.2.2.2.2.2.2;have B8:∀p:BW f,p.w.cell? ⟨N+1,2,tD⟩=tB (Z U i.a):=λp=>by rw[cc _ _ _ _ _ _ (vx.out p.w p.h).2];rfl
    clear uc xo xp u;go_wp2;refine zQ ?_
    repeat (go_big_quiet_step (first
     |(go_at_call 188;exact aW (AK.out _))
     |(go_at_call 99;exact jF (aF _ _ _))))
    refine eh ?_;rintro _ ⟨p,rfl⟩;go_wp2;go_ret;rw[AI.out,D.out];exact⟨rfl,ux.out.trans (p.h.mono (by omega))⟩
   have B9:(i.op==18)=tG:=by rw[dp];exact vj
   have u:cm (R=ay m g.vs i):=by unfold cm;rw[uc.out];unfold dV;rw[cE ue,cE vh,cE vi,cE vj]
   have AM:cm (zP 189 #[tW (jg m g),tW i.cells] f (Z U (ay m g.vs i))):=
    qK m g i f (by have:=AT.out;omega) ⟨vy.out,λh=>vd.out _ (by rw[HL.out];exact Cu h),λh=>vd.out _ (by rw[HL.out];exact qc h),λh=>vd.out _ (by rw[HL.out];exact EC h),vc.out.kn⟩
   clear uc ue vh vi vj
   go_wp2_with (first
    |(refine ci rfl 184 _ rfl N rfl 184 (jg m g) (0,0) _ (ud.out.1) cI rfl (by kernel_rfl) ?_)
    |(refine ci rfl 42 _ rfl (N+1) rfl 42 i.cells (0,0) _ (ud.out.2) cJ rfl (by kernel_rfl) ?_)
    |(go_at_call 189;refine AM.out.mono ?_;rintro e A ⟨rfl,J⟩;have vf:=zH J;clear J))
   go_ret;rw[u.out,D.out];exact⟨rfl,ux.out.trans (vf.out.mono (by omega))⟩
theorem kw {α:Type}{f:α->bp}:∀{l:bm α}{j:bx}{x:α},(∀y∈l.take j,f y=0)->l[j]?=tB x->f x≠0->aQ f l=f x
 |[],j,x,_,h,_=>by simp at h
 |y::r,0,x,_,h,d=>by
  simp at h;subst h;unfold aQ;rw[cE d]
 |y::r,j+1,x,q,h,d=>by
  unfold aQ;rw[cR (q y (by simp))];exact kw (j:=j) (λz u=>q z (by simp[u])) (by simpa using h) d
theorem iH {α:Type}{f:α->bp}:∀{l:bm α},(∀y∈l,f y=0)->aQ f l=0
 |[],_=>rfl
 |y::r,h=>by
  unfold aQ;rw[cR (h y (by simp))];exact iH λz d=>h z (by simp[d])
theorem vB {i:Ins}(h:i.ok):(i.cells.all λx=>x.oneCell')=tE:=by
 obtain⟨⟨q,cap,d⟩,u,n2,v,f⟩:=h;rw[<-ld];simp[Ins.cells,cj,d,f]
structure GQ (w:World)(m:Mo)(g:Fn):Prop where
 mo:m.inn w
 fn:g.inn w
 al:∀i∈g.c.ins,i.args.length<=40
 kn:∀v,isVar g.vs.length v=tE->m.known (az g.vs v)=tE
theorem Bv (m:Mo)(g:Fn)(w:World)(h:GQ w m g):
  zP 97 #[tW (jg m g)] w (Z U (codeF m g)):=by
 have wi:cm (∀i∈g.c.ins,∀W,bh w.heap.size w W->zP 136 #[tW (jg m g),tW i.cells] W (Z U (aD m g i))):=λi d W hW=>
  zG m g i W ⟨(Bt h.mo h.fn).below hW,(h.fn.code.args i d).below hW,h.al i d,h.kn⟩
 have vr:=zH h.fn.code.row;have wj:cm (∀i∈g.c.ins,i.ok):=λi d=>(h.fn.code.args i d).1;have vu:=h.fn.nvars;have wk:=(Bt h.mo h.fn).vl;unfold dT at wk;obtain⟨R,hR⟩:=zE (codeF m g);have v:cm (R=if 300<g.vs.length\/g.c.ins.length<1\/3000<g.c.ins.length then 2
  else if g.c.par<0\/(g.vs.length:bp)<g.c.par then 15
  else if aQ (aD m g) g.c.ins≠0 then aQ (aD m g) g.c.ins
  else bM (match g.c.ins.getLast? with
   |some i=>decide (16<=i.op)
   |none=>tG) 15):=hR.symm
 rw[hR];clear h hR;obtain⟨N,hN⟩:=zE w.heap.size;obtain⟨A,vc⟩:=zE (w.alloc (ua (jg m g) 184));have vx:=iV vc hN;have wl:A.heap.size=N+1:=by rw[<-vc];simp[hN]
 have ud:A.heap[N]?=tB (ua (jg m g) 184 (0,0)):=by rw[<-vc,<-hN];exact alloc_at _ _
 have q3:=zR ud 3 (Z U g.c.par);have q4:A.cell? ⟨N,4,tD⟩=tB (tP g.c.varsA g.vs.length g.c.varsC):=by rw[cc _ _ _ _ _ _ ud,<-vu];rfl
 have q9:=zR ud 9 (tP g.c.insA g.c.ins.length g.c.insC);have J:=zH vx;have G:=zH hN;have ws:=zH ud;have xl:=zH wl;have wx:N<A.heap.size:=by omega
 clear vx ud vu
 by_cases c1:300<g.vs.length
 ·have q:cm (R=2):=by unfold cm;rw[v.out,cR (.inl c1)]
  clear v;go_enter oB,np;go_wp2;go_ret;rw[q.out]
  try rw[G.out]
  exact⟨rfl,J.out⟩
 by_cases c2:g.c.ins.length<1
 ·have q:cm (R=2):=by unfold cm;rw[v.out,cR (.inr (.inl c2))]
  clear v;go_enter oB,np;go_wp2;go_ret;rw[q.out]
  try rw[G.out]
  exact⟨rfl,J.out⟩
 by_cases c3:3000<g.c.ins.length
 ·have q:cm (R=2):=by unfold cm;rw[v.out,cR (.inr (.inr c3))]
  clear v;go_enter oB,np;go_wp2;go_ret;rw[q.out]
  try rw[G.out]
  exact⟨rfl,J.out⟩
 by_cases c4:g.c.par<0
 ·have q:cm (R=15):=by unfold cm;rw[v.out,cE (by omega),cR (.inl c4)]
  clear v;go_enter oB,np;go_wp2;go_ret;rw[q.out]
  try rw[G.out]
  exact⟨rfl,J.out⟩
 by_cases c5:(g.vs.length:bp)<g.c.par
 ·have q:cm (R=15):=by unfold cm;rw[v.out,cE (by omega),cR (.inr c5)]
  clear v;go_enter oB,np;go_wp2;go_ret;rw[q.out]
  try rw[G.out]
  exact⟨rfl,J.out⟩
 have vd:cm (R=if aQ (aD m g) g.c.ins≠0 then aQ (aD m g) g.c.ins
  else bM (match g.c.ins.getLast? with
   |some i=>decide (16<=i.op)
   |none=>tG) 15):=by unfold cm;rw[v.out,cE (by omega),cE (by omega)]
 clear v;go_enter oB,np
 go_upto_region 8 with(refine ci rfl 184 _ rfl N rfl 184 (jg m g) (0,0) _ ws.out cI rfl (by kernel_rfl) ?_)
 go_loopw [47] (λc wr=>∃j:bx,j<=g.c.ins.length/\c= Z U (j:bp)/\(∀x∈g.c.ins.take j,aD m g x=0)/\bh A.heap.size A wr) (λc _=>g.c.ins.length-(intOf c).toNat)
 case atStart=>exact⟨0,cN _,rfl,by simp,aq _ _⟩
 case round=>
  obtain⟨j,hj,rfl,hz,hb⟩:=hrel;have HB:=zH hb;have HZ:=zH hz;have uv:cm (bh N w wr):=J.out.trans (hb.mono (by omega))
  by_cases vf:j<g.c.ins.length
  ·obtain⟨i,d⟩:∃i,g.c.ins[j]?=tB i:=⟨_,am vf⟩
   have vh:=cf d;obtain⟨D,uc,hA,vy,ue⟩:=vr.out (by intro e;rw[e] at vf;simp at vf);have vi:D<N:=by omega
   have we:cm (∀k u,i.cells.toList[k]?=tB u->wr.cell? ((⟨D,uc+j*13,tD⟩:Addr).add k)=tB u):=λk u hu=>by
    rw[dc,uv.out.cell (p:=⟨D,_,tD⟩) vi];exact ue j i d k u hu
   have hst:∀(c:da cd),c.size=13->(dr ⟨wr.heap.size,0,tD⟩ i.cells.toList 0).run ac (wr.alloc (ua c 42))= .ok () (wr.alloc (ua i.cells 42)):=λc hc=>
    ct (P:=ac) wr 42 c i.cells (by show _=tB 13;kernel_rfl) hc (vB (wj.out i vh))
   have wg:cm ((wr.alloc (ua i.cells 42)).heap[wr.heap.size]?=tB (ua i.cells 42 (0,0))):=alloc_at _ _;have xf:cm (bh N w (wr.alloc (ua i.cells 42))):=uv.out.alloc (by have:=HB.out.size;omega) _;have ux:cm (bh A.heap.size A (wr.alloc (ua i.cells 42))):=HB.out.alloc HB.out.size _;have vj:cm (zP 136 #[tW (jg m g),tW i.cells] (wr.alloc (ua i.cells 42)) (Z U (aD m g i))):=wi.out i vh _ (by rw[G.out];exact xf.out);have xo:(j:bp)<(g.c.ins.length:bp):=by omega
   have HI:=zH d;obtain⟨z,vm⟩:=zE (aD m g i);rw[vm] at vj;have vp:=zH vm;rw[hA];clear hz hb d vh vy ue vm
   by_cases va:z=0
   ·subst va
    go_wp2_with (first
     |(refine aG rfl 42 _ rfl ⟨D,uc+j*13,tD⟩ rfl i.cells _ we.out cJ rfl (by kernel_rfl) ?_)
     |(refine ci rfl 42 _ rfl wr.heap.size rfl 42 i.cells (0,0) _ wg.out cJ rfl (by kernel_rfl) ?_)
     |(go_at_call 136;refine vj.out.mono ?_;rintro e w3 ⟨rfl,ur⟩;have vq:cm (bh A.heap.size A w3):=ux.out.trans (ur.mono ux.out.size);clear ur))
    go_roundw
    case rel=>exact⟨j+1,by omega,by go_num,dE (p:=λx=>aD m g x=0) HZ.out HI.out vp.out,vq.out⟩
    case measure=>simp[intOf];omega
   ·have q:cm (R=z):=by
     unfold cm;have e:=kw (f:=aD m g) HZ.out HI.out (by rw[vp.out];exact va);rw[vd.out,e,vp.out,cR va]
    have xp:(z==0)=tG:=by rw[dp];exact va
    go_wp2_with (first
     |(refine aG rfl 42 _ rfl ⟨D,uc+j*13,tD⟩ rfl i.cells _ we.out cJ rfl (by kernel_rfl) ?_)
     |(refine ci rfl 42 _ rfl wr.heap.size rfl 42 i.cells (0,0) _ wg.out cJ rfl (by kernel_rfl) ?_)
     |(go_at_call 136;refine vj.out.mono ?_;rintro e w3 ⟨rfl,ur⟩;have vq:cm (bh A.heap.size A w3):=ux.out.trans (ur.mono ux.out.size);clear ur))
    go_ret;rw[q.out]
    try rw[G.out]
    exact⟨rfl,J.out.trans (vq.out.mono (by omega))⟩
  ·have xj:j=g.c.ins.length:=by omega
   subst xj;rw[de] at hz;obtain⟨i,d⟩:∃i,g.c.ins[g.c.ins.length-1]?=tB i:=⟨_,am (by omega)⟩
   have q:cm (R=bM (decide (16<=i.op)) 15):=by
    unfold cm;rw[vd.out,iH hz,cE (by simp),List.getLast?_eq_getElem?,d]
   obtain⟨D,uc,hA,vy,ue⟩:=vr.out (by intro e;rw[e] at d;simp at d);have vi:D<N:=by omega
   obtain⟨L,hL⟩:∃L,g.c.ins.length=L+1:=⟨g.c.ins.length-1,by omega⟩
   have hd:wr.cell? ⟨D,uc+L*13,tD⟩=tB (Z U i.op):=by
    rw[uv.out.cell (p:=⟨D,_,tD⟩) vi];rw[hL,Nat.add_sub_cancel] at d;exact ue L i d 0 _ rfl
   have xr:wr.cell? ⟨N,9,tD⟩=tB (tP (tB ⟨D,uc,tD⟩) (L+1) g.c.insC):=by rw[hb.cell (p:=⟨N,9,tD⟩) wx,<-hA,<-hL];exact q9
   have xt:D<wr.heap.size:=by have:=hb.size;omega
   have xF:N<wr.heap.size:=by have:=hb.size;omega
   have xT:((L+1:bx):bp)-1=(L:bp):=by omega
   have ya:L<=3000:=by omega
   clear hz hb d vd ue q9;rw[hL]
   go_wp2_with (go_at_call 99;refine(aF _ _ _).mono ?_;rintro e w8 ⟨rfl,rfl⟩)
   go_ret;rw[q.out]
   try rw[G.out]
   exact⟨rfl,uv.out⟩
section
open Go.RowKit Go.Maps
theorem qL:Keyed ac 9:=string_keyed im
theorem Dc (w:World):(zeroValue 4).run ac w= .ok (tU tG) w:=by kernel_rfl
theorem qX {P:km}{e:gx}(d:P.underlying e=tB .bool){v:cd}{z:DataW Unit×bm od}(h:mw P e v=tB z):∃x,v= .bool x/\z=(.lit (.bool x),[]):=by
 unfold mw at h;rw[d] at h;cases v<;>simp at h;exact⟨_,rfl,h.symm⟩
def qY (w:World)(B n:bx)(S:bm aE):Prop:=∃D:DataW Unit,w.ownsMap ac 9 (mw ac 4) B n D/\IsMap D/\
 ∀x:aE,D.atKey (.string x.data.toList) (.lit (.bool tG))= .lit (.bool (decide (x∈S)))
theorem qY.made (w:World):qY (w.alloc (.map #[] 0)) w.heap.size 0 []:=
 ⟨.map [],World.ownsMap_made _ _ _ _,isMap_empty,λx=>by simp[DataW.atKey]⟩
theorem qY.lt {w:World}{B n:bx}{S:bm aE}(h:qY w B n S):B<w.heap.size:=by
 obtain⟨D,d,f⟩:=h;exact d.lt
theorem qY.look {w:World}{B n:bx}{S:bm aE}(h:qY w B n S){x:aE}(f:x.size<=dT):
  (gC 283 (.map (tB B)) (.string x) tG).run ac w= .ok (.bool (decide (x∈S))) w:=by
 obtain⟨D,q,J,u⟩:=h;obtain⟨v,ps,A,G⟩:=q.lookup qL underlying283 (Dc w) (rk ii tG) (th im f);obtain⟨y,rfl,d⟩:=qX ii G;rw[u x] at d;simp only[cU,DataW.lit.injEq,Lit.bool.injEq] at d;rw[A,<-d.1]
theorem qY.add {w:World}{B n:bx}{S:bm aE}(h:qY w B n S){x:aE}(f:x.size<=dT)(q:n<dT):
  ∃w',(oE 283 (.map (tB B)) (.string x) (.bool tE)).run ac w= .ok () w'/\qY w' B (n+1) (x::S)/\Ext (·=B) w w':=by
 obtain⟨D,u,d,v⟩:=h;obtain⟨w',A,G,J⟩:=u.update qL underlying283 q (th im f) (rk ii tE);refine⟨w',A,⟨_,G,d.put _ _,λy=> ?_⟩,Ext.of_grown J (λk hk=> .inl (by simpa using hk.symm))⟩
 by_cases e:y=x
 ·subst e
  rw[atKey_put_same d (by simp[qn])];simp
 ·rw[atKey_put_other (GD e),v y];simp[e]
end
section
open Go.RowKit Go.Maps
theorem zI:(ac.info? 9).map (λi=>(i.zero,i.size,i.bytes))=tB (tB (tM ⟨#[]⟩),1,16):=by kernel_rfl
def gD (w:World)(base:bx)(v:cd)(xs:bm aE):Prop:=w.ownsRow base 9 1 v xs.length (xs.map fh)
theorem gD.nil (w:World)(base:bx):gD w base (tP tD 0 0) []:=World.ownsRow_nil _ _ _ _
theorem gD.isSlice {w:World}{base:bx}{v:cd}{xs:bm aE}(h:gD w base v xs):∃f cap,v= tP f xs.length cap:=by
 rcases h.2 with⟨d,q⟩|⟨g,cap,cur,d,_⟩
 ·exact⟨tD,0,by rw[q];exact d⟩
 ·exact⟨_,_,d⟩
theorem gD.at_ {w:World}{base n cap:bx}{d:eA Addr}{xs:bm aE}(h:gD w base (tP d n cap) xs):aR w d xs:=by
 intro A;rcases h.2 with⟨f,q⟩|⟨g,J,cur,f,q,u,h4,h5,h6,D⟩
 ·exact fW (du q) A
 ·have G:d=tB ⟨g,0,tD⟩:=by simp only[gj] at f;exact f.1
  refine⟨g,0,G,(bj.1 u).1,λk z v=> ?_⟩;rw[cV,cc w g k cur _ _ u];have hk:k<xs.length:=(ap.1 v).1;have e:(cur.toList.take (xs.length*1))[k]?=tB (tM z):=by rw[D];simp[v]
  rw[pS,cR (by omega)] at e;simpa using e
theorem gD.below {w w':World}{base:bx}{v:cd}{xs:bm aE}(h:gD w base v xs)(d:bh w.heap.size w w'):gD w' base v xs:=ownsRow_below h d
theorem gL {w:World}{ops:da ke}{rest:bm ke}{o:ke}{a:Act}{Q:Exit->Act->World->Prop}(G:o.guard=tD)(s x:Operand)
  (J:o.op= .call {callee:= .builtin .append,args:=#[s,x],argTypes:=#[223,223]})(base:bx)(v:cd)(xs:bm aE)(hs:a.eval s=v)(uc:gD w base v xs)
  (f:Addr)(z:aE)(c:bx)(hx:a.eval x= tP (tB f) 1 c)(ud:w.cell? f=tB (tM z))(va:xs.length<=90000)(ue:base<=w.heap.size)
  (h:∀d w',gD w' base d (xs++[z])->w.grownBy w' v.ownBlock->sL ac ops Q rest (a.put o.dst d) w'):sL ac ops Q (o::rest) a w:=by
 obtain⟨i0,hi,ur,uv,ux⟩:=gA zI;have hh:∀d w',w'.ownsRow base 9 1 d (xs.length+1) (xs.map fh++[tM z])->w.grownBy w' v.ownBlock->sL ac ops Q rest (a.put o.dst d) w':=λd w' q A=>h d w' (by unfold gD;simpa using q) A;refine wpList_append_own _ G s x 223 J base 9 i0 (tM ⟨#[]⟩) 1 16 qS hi ur uv ux rfl (by decide) v xs.length _ hs uc f 1 c [tM z] hx (by simp) (λj u D=> ?_) (by simp;rfl) (by unfold dT;omega) (by omega) ue (λd w' q A _=>hh d w' q A);have:j<1:=(ap.1 D).1;obtain rfl:j=0:=by omega
 simp at D;subst D;obtain⟨b,o,s⟩:=f;simpa[Addr.add] using ud
theorem Bw {xs:bm aE}{j:bx}{y:aE}(h:(xs.take j).Nodup)(f:xs[j]?=tB y)(q:y∉xs.take j):(xs.take (j+1)).Nodup:=by
 rw[dL f,lj];exact⟨h,by simp,by intro a u b d;simp at d;subst d;rintro rfl;exact q u⟩
theorem De {xs:bm aE}{j:bx}{y:aE}(f:xs[j]?=tB y)(q:y∈xs.take j):¬xs.Nodup:=by
 intro h;have d:(xs.take (j+1)).Nodup:=h.sublist (List.take_sublist _ _);rw[dL f,lj] at d;exact d.2.2 y q y (by simp) rfl
theorem jO (w:World)(c:bx)(ao:eA Addr)(xs:bm aE)(hn:xs.length<=90000)(uv:∀x∈xs,x.size<=dT)(h:aR w ao xs):
  zP 133 #[tP ao xs.length c] w (tU (decide (¬xs.Nodup))):=by
 have we:=@run_makeMap ac;have H:=zH h;have vf:=zH uv;obtain⟨N,A⟩:=zE w.heap.size;obtain⟨W1,ux⟩:=zE (w.alloc (.map #[] 0));have va:=iV ux A;have vh:cm (qY W1 N 0 []):=by rw[<-ux,<-A];exact qY.made w
 have vi:=zH va;have D:=zH A;obtain⟨R,G⟩:=zE (decide (¬xs.Nodup));rw[G];have HR:=zH G;clear h uv va G;go_enter func133,ntmps133
 go_wp2_with fail
 go_loopw [9] (λc wr=>∃(j:bx) (S:bm aE),j<=xs.length/\c= Z U (j:bp)/\qY wr N j S/\(∀z,z∈S↔z∈xs.take j)/\(xs.take j).Nodup/\bh N w wr) (λc _=>xs.length-(intOf c).toNat)
 case atStart=>exact⟨0,[],cN _,rfl,vh.out,by simp,by simp,vi.out⟩
 case round=>
  obtain⟨j,S,hj,rfl,f,J,q,u⟩:=hrel;have HB:=zH u;have vj:=zH q;have uc:=zH J
  by_cases ud:j<xs.length
  ·obtain⟨y,v⟩:∃y,xs[j]?=tB y:=⟨_,am ud⟩
   obtain⟨g1,vm,rfl,wg,q1⟩:=(H.out.below (by rw[D.out];exact u)) (by intro e;rw[e] at ud;simp at ud)
   have d1:wr.cell? ⟨g1,vm+j,tD⟩=tB (tM y):=q1 j y v;have ue:=vf.out y (cf v);have wi:(j:bp)<(xs.length:bp):=by omega
   have vp:=f.look ue;obtain⟨w2,wj,vc,vd⟩:=f.add ue (show j<dT by unfold dT;omega);obtain⟨d,hd⟩:=zE (decide (y∈S));rw[hd] at vp;have HD:=zH hd;have HY:=zH v;have vq:=zH vc;have vr:=zH vd;have wk:=f.lt;clear f J q u v q1 ue hd vc vd;cases d with
   |true=>
    have ur:cm (R=tE):=by
     unfold cm;rw[<-HR.out];exact ef (De HY.out ((uc.out y).1 (qe HD.out)))
    go_wp2;go_ret;rw[ur.out]
    try rw[D.out]
    exact⟨rfl,HB.out⟩
   |false=>
    go_wp2;go_roundw
    case rel=>
     have vu:y∉xs.take j:=λh=>of_decide_eq_false HD.out ((uc.out y).2 h);refine⟨j+1,y::S,by omega,by go_num,vq.out,λz=> ?_,Bw vj.out HY.out vu, ?_⟩
     ·rw[dL HY.out,fy,cT,uc.out z,cH,or_comm]
     ·have vx:Ext (N<=·) wr w2:=vr.out.mono (λk hk=>by show N<=k;omega)
      exact HB.out.trans (vx.below (by omega) (λk hk=>hk))
    case measure=>simp[intOf];omega
  ·have vy:j=xs.length:=by omega
   subst vy;have ur:cm (R=tG):=by
    unfold cm;rw[de] at q;rw[<-HR.out];exact cL (by simpa using q)
   clear f J q u;go_wp2;go_ret;rw[ur.out]
   try rw[D.out]
   exact⟨rfl,HB.out⟩
end
end Go.Proofs.YtjomgckjhcfbgaaGreat
