/- Walks. -/
import Derived.Deep.WholeRow
import Derived.Maps.OwnOps
import Derived.Maps.Views
import Derived.Laws.OwnMore
import Derived.Test.YtjomgckjhcfbgaaGreatX8
set_option maxRecDepth 100000
set_option maxHeartbeats 64000000
set_option linter.all false
namespace Go.Proofs.YtjomgckjhcfbgaaGreat
open Go.RowKit
open Go.Proofs.Tryz renaming prog→ac,underlying184→cq,underlying42→cr,ntmps189→eh,func189→et,underlying4→fX,underlying9→fY,ntmps97→lr,func97→mx,underlying223→oe
open _root_.List renaming getElem?_eq_getElem→am,setIfInBounds_toArray→ap,set_cons_zero→bj,set_cons_succ→bk,getElem?_eq_some_iff→bl,mem_of_getElem?→ce,getElem_cons_zero→cg,getElem_cons_succ→ci,getElem_toArray→cm,mem_singleton→cA,mem_append→cC,take_length→cT,eq_nil_of_length_eq_zero→cY,mem_cons→fW,all_eq_true→gC,nodup_append→iz,getElem?_eq_none→lA,getElem?_take→py
open Go.RowKit.Below renaming refl→an,mono→m9
open Go.RowKit renaming Below→aq,Hid→ca
open _root_ renaming ByteArray→aw,List→bm,Nat→cd,Int→cj,decide_eq_false→cv,if_neg→cw,Array→cG,if_pos→cI,beq_eq_false_iff_ne→cR,Option→du,decide_eq_true→dy,absurd→fL,of_decide_eq_true→nr
open _root_.Array renaming getElem?_eq_some_iff→bb,all_toList→iv
open Go renaming cell_of_row→bh,wpList_load_row→bo,Value→bw,run_storeCells_new→cf,storeCells→cU,wpQuiet_nil→db,maxLen→dl,beq_toListBytes→eL,Calls→ft,TypeId→ge,Oper→ij,yielded→im,wpAnyH_ready→it,Program→i8,plainElem→kq,info_parts→ld,MemPlace→ml,Addr→oA,plainElem_bool→oS
open _root_.Nat renaming le_refl→bp,zero_add→cH,zero_le→cJ
open Go.Value renaming oneCell'→br,string→em,int→eC,string→qT,slice→ra,pointer→rb,bool→re,agg→rh,int→Z
open Go.Addr renaming add_lit→cM
open Go.Region renaming ready→cN,wanted→dt,noSelect→ei,Mode→fy,free→ia
open Go.Act renaming put→cV
open _root_.Int renaming toNat_natCast→ep
open Go.AllReadyH renaming cons→fa,nil→gj
open Go.Instr renaming lookup→fk,mapUpdate→my
open Go.Value.slice renaming injEq→fz
open Go.Op renaming equalIn→fS
open _root_.Prod.mk renaming injEq→lz
open Go.ByteArray renaming toList_eq→mN
open Go.WideAt renaming IsKeyLit→nx
open Go.WideMaps renaming keyOf_string_mk→pS
open _root_.Option renaming some→qt,none→qu
open _root_.Bool renaming true→qv,false→qS
open Go.Obj renaming cells→rj
open Go.Ending renaming returned→rk
open Go.IntKind renaming i64→U
open Tryz
theorem CY (m:Mo)(g:Fn)(i:Ins)(w:World)(A:i.op=9)(h:dn w m g i):
  zP 189 #[rh (jg m g),rh i.cells] w (Z U (aj m g.vs i)):=by
 have D:ca (aj m g.vs i=bv ((ak g.vs i.a).1&&ak g.vs i.a==ak g.vs i.d) 7):=by
  unfold ca aj;rw[A];rfl
 obtain⟨R,hR⟩:=zE (aj m g.vs i);rw[hR] at D⊢;clear hR;have rv:=zH h;obtain⟨N,f,hN,rx,rB,rn,⟨i0,i1,i2,i3,i4,i6⟩,G,rI,J,K,rK,HT,HD,HA,HB⟩:=bI A h;clear h A;obtain⟨⟨q,sa⟩,u⟩:∃t,ak g.vs i.a=t:=⟨_,rfl⟩
 obtain⟨⟨bd,sd⟩,y⟩:∃t,ak g.vs i.d=t:=⟨_,rfl⟩
 have rL:(ak g.vs i.a).1=q:=by rw[u]
 have rN:(ak g.vs i.a).2=sa:=by rw[u]
 have rS:(ak g.vs i.d).1=bd:=by rw[y]
 have se:(ak g.vs i.d).2=sd:=by rw[y]
 have HV:ca (∀v,v=i.a\/v=i.d->isVar g.vs.length v=qv):=λv h=>by rcases h with rfl|rfl;exact HA.out rfl;exact HD.out rfl
 have rl:ca (∀(p:BW f)(v:cj),isVar g.vs.length v=qv->zP 188 #[rh (jg m g),Z U v] p.w (rh #[re (ak g.vs v).1,qT (ak g.vs v).2])):=λp v hv=>HT.out p.w v (by rw[G.out];exact J.out.trans (p.h.mono (by omega))) hv;unfold jg at rl;obtain⟨d,rm⟩:=zE (((q,sa):Ty)==(bd,sd));have sf:∀w,(fS 10000 32 (rh #[re q,qT sa]) (rh #[re bd,qT sd])).run ac w= .ok d w:=λw=>by rw[cB,rm]
 have rr:ca (R=bv (q&&d) 7):=by unfold ca;rw[D.out,u,y,rm]
 have sk:=jh;have o:ca (∀p:BW f,iI p.w N m g):=λp=>iI.of ((p.h.block N (by omega)).trans K.out);have k0:∀p:BW f,p.w.cell? ⟨N,0,qu⟩=qt (ra m.sA m.ss.length m.sC):=λp=>(o.out p).1;have k1:∀p:BW f,p.w.cell? ⟨N,1,qu⟩=qt (ra m.fA m.fs.length m.fC):=λp=>(o.out p).2.1;have k2:∀p:BW f,p.w.cell? ⟨N,2,qu⟩=qt (qT g.c.nm):=λp=>(o.out p).2.2.1;have k3:∀p:BW f,p.w.cell? ⟨N,3,qu⟩=qt (Z U g.c.par):=λp=>(o.out p).2.2.2.1;have k4:∀p:BW f,p.w.cell? ⟨N,4,qu⟩=qt (ra g.c.varsA g.c.nvars g.c.varsC):=λp=>(o.out p).2.2.2.2.1;have k5:∀p:BW f,p.w.cell? ⟨N,5,qu⟩=qt (re g.c.rp):=λp=>(o.out p).2.2.2.2.2.1;have k6:∀p:BW f,p.w.cell? ⟨N,6,qu⟩=qt (qT g.c.rto):=λp=>(o.out p).2.2.2.2.2.2.1;have k7:∀p:BW f,p.w.cell? ⟨N,7,qu⟩=qt (Z U g.c.rcl):=λp=>(o.out p).2.2.2.2.2.2.2.1;have k8:∀p:BW f,p.w.cell? ⟨N,8,qu⟩=qt (ra g.c.fromA g.c.nfrom g.c.fromC):=λp=>(o.out p).2.2.2.2.2.2.2.2.1;have k9:∀p:BW f,p.w.cell? ⟨N,9,qu⟩=qt (ra g.c.insA g.c.ins.length g.c.insC):=λp=>(o.out p).2.2.2.2.2.2.2.2.2;have sn:∀p:BW f,p.w.cell? ⟨N+1,1,qu⟩=qt (Z U i.d):=λp=>by rw[p.h.cell (p:=⟨N+1,1,qu⟩) rn];exact i1
 have sq:∀p:BW f,p.w.cell? ⟨N+1,2,qu⟩=qt (Z U i.a):=λp=>by rw[p.h.cell (p:=⟨N+1,2,qu⟩) rn];exact i2
 clear D u y rm HT HB rv;cases q with
 |false=>
  go_enter et,eh
  go_wp2_with (refine bo rfl 184 _ rfl N rfl 184 (jg m g) (0,0) _ K.out cq rfl (by kernel_rfl) ?_)
  refine zQ ?_
  repeat (go_big_quiet_step (first
   |(go_at_call 188;exact aV (rl.out _ _ (HV.out _ (by first|exact .inl rfl|exact .inr rfl))))
   |(go_at_call 99;exact iL (ay _ _ _))))
  refine db ?_;rintro _ ⟨p,rfl⟩;go_wp2;go_ret;rw[rr.out,G.out];exact⟨rfl,J.out.trans (p.h.mono (by omega))⟩
 |true=>
  go_enter et,eh
  go_wp2_with (refine bo rfl 184 _ rfl N rfl 184 (jg m g) (0,0) _ K.out cq rfl (by kernel_rfl) ?_)
  refine zQ ?_
  repeat (go_big_quiet_step (first
   |(go_at_call 188;exact aV (rl.out _ _ (HV.out _ (by first|exact .inl rfl|exact .inr rfl))))
   |(go_at_call 99;exact iL (ay _ _ _))))
  refine db ?_;rintro _ ⟨p,rfl⟩;go_wp2;go_ret;rw[rr.out,G.out];exact⟨rfl,J.out.trans (p.h.mono (by omega))⟩
theorem BN (m:Mo)(g:Fn)(i:Ins)(w:World)(rn:i.op=12)(h:dn w m g i):
  zP 189 #[rh (jg m g),rh i.cells] w (Z U (aj m g.vs i)):=by
 have u:ca (aj m g.vs i=if i.f<0 then 15 else match m.ss[i.f.toNat]? with
  |none=>15
  |some s=>bv (ak g.vs i.d==(qv,s.s.nm)) 7):=by
  unfold ca aj;rw[rn];rfl
 obtain⟨R,hR⟩:=zE (aj m g.vs i);rw[hR] at u⊢;clear hR;have rl:=zH h;obtain⟨N,o,hN,sk,sn,rB,⟨i0,i1,i2,i3,i4,i6⟩,HN,sq,y,D,sr,HT,HD,HA,HB⟩:=bI rn h;clear h rn;have rN:o.cell? ⟨N,0,qu⟩=qt (ra m.sA m.ss.length m.sC):=(iI.of D.out).1
 by_cases G:i.f<0
 ·have J:ca (R=15):=by unfold ca;rw[u.out,cI G]
  clear u HT HD HA HB rl;go_enter et,eh
  go_wp2_with (refine bo rfl 184 _ rfl N rfl 184 (jg m g) (0,0) _ D.out cq rfl (by kernel_rfl) ?_)
  go_ret;rw[J.out];exact⟨rfl,by first|exact y.out|(rw[HN.out];exact y.out)⟩
 obtain⟨F,hF⟩:∃F:cd,i.f=(F:cj):=⟨i.f.toNat,by omega⟩
 rw[hF] at i4
 by_cases K:F<m.ss.length
 ·obtain⟨A,hst⟩:∃f,m.ss[F]?=qt f:=⟨_,am K⟩
  have rI:ca (R=bv (ak g.vs i.d==(qv,A.s.nm)) 7):=by
   unfold ca;rw[u.out,cw G,hF,ep,hst]
  obtain⟨sb,rK,rr,rS,rL⟩:=rl.out.j.mo.srow (by intro e;rw[e] at K;simp at K);have se:sb<N:=by omega
  have c0:w.cell? ⟨sb,rK+F*4,qu⟩=qt (qT A.s.nm):=rL F A hst 0 _ rfl;obtain⟨⟨bd,sd⟩,rm⟩:∃t,ak g.vs i.d=t:=⟨_,rfl⟩
  have sx:(ak g.vs i.d).1=bd:=by rw[rm]
  have sy:(ak g.vs i.d).2=sd:=by rw[rm]
  have HV:ca (∀v,v=i.d\/v=i.d->isVar g.vs.length v=qv):=λv h=>by rcases h with rfl|rfl<;>exact HD.out rfl
  have rv:ca (∀(p:BW o)(v:cj),isVar g.vs.length v=qv->zP 188 #[rh (jg m g),Z U v] p.w (rh #[re (ak g.vs v).1,qT (ak g.vs v).2])):=λp v hv=>HT.out p.w v (by rw[HN.out];exact y.out.trans (p.h.mono (by omega))) hv;unfold jg at rv;obtain⟨d,rx⟩:=zE (((bd,sd):Ty)==(qv,A.s.nm));have sB:∀w,(fS 10000 32 (rh #[re bd,qT sd]) (rh #[re qv,qT A.s.nm])).run ac w= .ok d w:=λw=>by rw[cB,rx]
  have J:ca (R=bv d 7):=by unfold ca;rw[rI.out,rm,rx]
  have q:ca (∀p:BW o,iI p.w N m g):=λp=>iI.of ((p.h.block N (by omega)).trans D.out);have k0:∀p:BW o,p.w.cell? ⟨N,0,qu⟩=qt (ra m.sA m.ss.length m.sC):=λp=>(q.out p).1;have k1:∀p:BW o,p.w.cell? ⟨N,1,qu⟩=qt (ra m.fA m.fs.length m.fC):=λp=>(q.out p).2.1;have k2:∀p:BW o,p.w.cell? ⟨N,2,qu⟩=qt (qT g.c.nm):=λp=>(q.out p).2.2.1;have k3:∀p:BW o,p.w.cell? ⟨N,3,qu⟩=qt (Z U g.c.par):=λp=>(q.out p).2.2.2.1;have k4:∀p:BW o,p.w.cell? ⟨N,4,qu⟩=qt (ra g.c.varsA g.c.nvars g.c.varsC):=λp=>(q.out p).2.2.2.2.1;have k5:∀p:BW o,p.w.cell? ⟨N,5,qu⟩=qt (re g.c.rp):=λp=>(q.out p).2.2.2.2.2.1;have k6:∀p:BW o,p.w.cell? ⟨N,6,qu⟩=qt (qT g.c.rto):=λp=>(q.out p).2.2.2.2.2.2.1;have k7:∀p:BW o,p.w.cell? ⟨N,7,qu⟩=qt (Z U g.c.rcl):=λp=>(q.out p).2.2.2.2.2.2.2.1;have k8:∀p:BW o,p.w.cell? ⟨N,8,qu⟩=qt (ra g.c.fromA g.c.nfrom g.c.fromC):=λp=>(q.out p).2.2.2.2.2.2.2.2.1;have k9:∀p:BW o,p.w.cell? ⟨N,9,qu⟩=qt (ra g.c.insA g.c.ins.length g.c.insC):=λp=>(q.out p).2.2.2.2.2.2.2.2.2;have sE:∀p:BW o,p.w.cell? ⟨N+1,1,qu⟩=qt (Z U i.d):=λp=>by rw[p.h.cell (p:=⟨N+1,1,qu⟩) rB];exact i1
  have sL:∀p:BW o,p.w.cell? ⟨N+1,4,qu⟩=qt (Z U (F:cj)):=λp=>by rw[p.h.cell (p:=⟨N+1,4,qu⟩) rB];exact i4
  have sR:∀p:BW o,p.w.cell? ⟨sb,rK+F*4,qu⟩=qt (qT A.s.nm):=λp=>by
   rw[(y.out.trans (p.h.mono (by omega))).cell (p:=⟨sb,_,qu⟩) se];exact c0
  have sf:(F:cj)<(m.ss.length:cj):=by omega
  have sT:sb<o.heap.size:=by omega
  have sX:∀(s:aw)(w:World),(Instr.build 32 #[(0,re qv),(1,qT s)]).run ac w= .ok (rh #[re qv,qT s]) w:=λs w=>run_build w 32 _ _ (by kernel_rfl);rw[rr] at rN k0 rv;have sY:=zH rr;clear u rI rx rm HT HB rl rr hst K hF G rS rL c0;go_enter et,eh
  go_wp2_with (refine bo rfl 184 _ rfl N rfl 184 (jg m g) (0,0) _ D.out cq rfl (by kernel_rfl) ?_)
  refine zQ ?_
  repeat (go_big_quiet_step (first
   |(go_at_call 188;exact aV (rv.out _ _ (HV.out _ (by first|exact .inl rfl|exact .inr rfl))))
   |(go_at_call 99;exact iL (ay _ _ _))))
  refine db ?_;rintro _ ⟨p,rfl⟩;go_wp2;go_ret;rw[J.out,HN.out];exact⟨rfl,y.out.trans (p.h.mono (by omega))⟩
 ·have J:ca (R=15):=by unfold ca;rw[u.out,cw G,hF,ep,lA (by omega)]
  have sf:¬((F:cj)<(m.ss.length:cj)):=by omega
  clear u HT HD HA HB rl K hF G;go_enter et,eh
  go_wp2_with (refine bo rfl 184 _ rfl N rfl 184 (jg m g) (0,0) _ D.out cq rfl (by kernel_rfl) ?_)
  go_ret;rw[J.out];exact⟨rfl,by first|exact y.out|(rw[HN.out];exact y.out)⟩
theorem yu {w:World}{B:cd}{xs:bm cj}(d:B=w.heap.size):au (w.alloc (rj (xs.map (eC .i64)).toArray 3)) (qt ⟨B,0,qu⟩) xs:=by
 subst d;intro _;refine⟨w.heap.size,0,rfl,by simp,λk u f=> ?_⟩;rw[cH,World.cell?_alloc_new];simp[f]
theorem pM {w:World}{B:cd}{xs:bm aw}(d:B=w.heap.size):aN (w.alloc (rj (xs.map em).toArray 9)) (qt ⟨B,0,qu⟩) xs:=by
 subst d;intro _;refine⟨w.heap.size,0,rfl,by simp,λk u f=> ?_⟩;rw[cH,World.cell?_alloc_new];simp[f]
theorem CZ (m:Mo)(g:Fn)(i:Ins)(w:World)(K:i.op=4)(h:dn w m g i):
  zP 189 #[rh (jg m g),rh i.cells] w (Z U (aj m g.vs i)):=by
 have D:ca (aj m g.vs i=dM (dB g.vs [i.d,i.a,i.b]) i.sign fE):=by
  unfold ca aj;rw[K];rfl
 obtain⟨R,hR⟩:=zE (aj m g.vs i);rw[hR] at D⊢;clear hR;have rx:=zH h;obtain⟨N,f,hN,rL,rN,G,⟨i0,i1,i2,i3,i4,i6⟩,HN,rS,rB,rK,se,HT,HD,HA,HB⟩:=bI K h;clear h K;obtain⟨r0,rl⟩:=zE (dB g.vs [i.d,i.a,i.b]);rw[rl] at D;have rm:ca (∀(W:World)(q:cd),aq f.heap.size f W->au W (qt ⟨q,0,qu⟩) [i.d,i.a,i.b]->zP 187 #[rh (jg m g),ra (qt ⟨q,0,qu⟩) 3 3] W (Z U r0)):=by
  intro W q v rn;have hj:=rx.out.j.below (by rw[HN.out];exact rB.out.trans (v.mono (by omega)):aq w.heap.size w W);have:=bU m g (qt ⟨q,0,qu⟩) [i.d,i.a,i.b] 3 W hj.vars hj.nv hj.vl (by unfold dl;simp) rn (by simp;exact⟨HD.out rfl,HA.out rfl,HB.out rfl⟩);rw[rl] at this;exact this
 have rr:ca (∀(W:World)(q:cd),aN W (qt ⟨q,0,qu⟩) fE->zS 226 #[Z U r0,qT i.sign,ra (qt ⟨q,0,qu⟩) 11 11] W (Z U R)):=by
  intro W q rn;rw[D.out];exact mq r0 i.sign fE (qt ⟨q,0,qu⟩) 11 W (by unfold dl fE;simp) rn
 have u:ca (∀W,aq f.heap.size f W->W.cell? ⟨N+1,1,qu⟩=qt (Z U i.d)/\W.cell? ⟨N+1,2,qu⟩=qt (Z U i.a)/\W.cell? ⟨N+1,3,qu⟩=qt (Z U i.b)/\W.cell? ⟨N+1,6,qu⟩=qt (qT i.sign)/\aq f.heap.size f W):=λW v=>
  ⟨by rw[v.cell (p:=⟨N+1,1,qu⟩) G];exact i1,by rw[v.cell (p:=⟨N+1,2,qu⟩) G];exact i2,by rw[v.cell (p:=⟨N+1,3,qu⟩) G];exact i3,by rw[v.cell (p:=⟨N+1,6,qu⟩) G];exact i6,v⟩
 have HI:ca (∀(W:World)(B:cd),B=W.heap.size->au (W.alloc (rj #[Z U i.d,Z U i.a,Z U i.b] 3)) (qt ⟨B,0,qu⟩) [i.d,i.a,i.b]):=λW B hB=>yu hB;have rv:ca (∀(W:World)(B:cd),B=W.heap.size->aN (W.alloc (rj #[qT ⟨#[43]⟩,qT ⟨#[45]⟩,qT ⟨#[42]⟩,qT ⟨#[47]⟩,qT ⟨#[37]⟩,qT ⟨#[60]⟩,qT ⟨#[60,61]⟩,qT ⟨#[62]⟩,qT ⟨#[62,61]⟩,qT ⟨#[61,61]⟩,qT ⟨#[33,61]⟩] 9)) (qt ⟨B,0,qu⟩) fE):=λW B hB=>pM hB;clear D HD HA HB HT rx rl;go_enter et,eh
 go_wp2_with (refine bo rfl 184 _ rfl N rfl 184 (jg m g) (0,0) _ rK.out cq rfl (by kernel_rfl) ?_)
 go_region_held3 (λw'=>w'.cell? ⟨N+1,1,qu⟩=qt (Z U i.d)/\w'.cell? ⟨N+1,2,qu⟩=qt (Z U i.a)/\w'.cell? ⟨N+1,3,qu⟩=qt (Z U i.b)/\w'.cell? ⟨N+1,6,qu⟩=qt (qT i.sign)/\aq f.heap.size f w')
  (first
   |(exact J)
   |(exact u.out _ ((an _ _).drew))
   |(exact u.out _ (((an _ _).drew).alloc (by simp) _))
   |(exact u.out _ ((((an _ _).drew).alloc (by simp) _).alloc (by simp<;>omega) _))
   |(exact u.out _ o)
   |(exact u.out _ (o.alloc (by have:=o.size;omega) _))
   |fail)
  (first
   |(go_at_call 187;first
      |(refine(rm.out _ _ (((an _ _).drew).alloc (by simp) _) (HI.out _ _ (by simp<;>omega))).mono ?_;rintro e A ⟨rfl,y⟩;have o:aq f.heap.size f A:=(((an _ _).drew).alloc (by simp) _).trans (y.mono (by simp));have J:=u.out _ o)
      |(refine(rm.out _ _ ((((an _ _).drew).alloc (by simp) _).alloc (by simp<;>omega) _) (HI.out _ _ (by simp<;>omega))).mono ?_;rintro e A ⟨rfl,y⟩;have o:aq f.heap.size f A:=((((an _ _).drew).alloc (by simp) _).alloc (by simp<;>omega) _).trans (y.mono (by simp<;>omega));have J:=u.out _ o)
      |(refine(rm.out _ _ ((((an _ _).drew).alloc (by simp) _).alloc (by simp<;>omega) _) ((HI.out _ _ (by simp<;>omega)).below ((an _ _).alloc (bp _) _))).mono ?_;rintro e A ⟨rfl,y⟩;have o:aq f.heap.size f A:=((((an _ _).drew).alloc (by simp) _).alloc (by simp<;>omega) _).trans (y.mono (by simp<;>omega));have J:=u.out _ o))
   |(go_at_call 226;first
      |(refine(rr.out _ _ (rv.out _ _ (by simp))).mono ?_;rintro e rI ⟨rfl,rfl⟩)
      |(refine(rr.out _ _ ((rv.out _ _ (by simp<;>omega)).below y)).mono ?_;rintro e rI ⟨rfl,rfl⟩)
      |(refine(rr.out _ _ (((rv.out _ _ (by simp<;>omega)).below ((an _ _).alloc (bp _) _)).below y)).mono ?_;rintro e rI ⟨rfl,rfl⟩)))
 all_goals
  clear J;go_wp2;go_ret;refine⟨rfl, ?_⟩;rw[HN.out];exact rB.out.trans (m9 (by first|exact o|exact o.alloc (by have:=o.size;omega) _) (by omega))
section
variable {P:i8}{ops:cG ij}{Q:Exit->Act->World->Prop}{md:fy}{S:World->Prop}
theorem zW (i:cd)(v:bw){d:ij}{fuel:cd}{listed:cG Bool}{a:Act}{w:World}(f:ops[i]?=qt d)
  (h:wpAnyH P md ops Q S fuel (listed.setIfInBounds i qv) (a.put d.dst v) w)
  (o:∀w,S w->(execOp a.eval d).run P w= .ok (.value v) w:=by intro w q;(try dsimp only at q);go_simp)
  (u:dt d (im ops a.tmps)=qv:=by rfl)(y:ei ops=qv:=by kernel_rfl)(A:ia md ops listed i=qv:=by kernel_rfl)(D:(cN md ops listed).contains i=qv:=by kernel_rfl)
  (G:∀c a w,Q (.panic c) (a.put d.dst v) w->Q (.panic c) a w:=by exact λ_ _ _ h=>h)(J:S w:=by assumption):wpAnyH P md ops Q S (fuel+1) listed a w:=
 wpAnyH_take f y A D G (.inl ⟨u,o⟩) J h
theorem zX (i:cd){d:ij}{fuel:cd}{listed:cG Bool}{a:Act}{w:World}(f:ops[i]?=qt d)
  (h:wpAnyH P md ops Q S fuel (listed.setIfInBounds i qv) (a.put d.dst undef) w)
  (o:dt d (im ops a.tmps)=qS:=by rfl)(q:ei ops=qv:=by kernel_rfl)(u:ia md ops listed i=qv:=by kernel_rfl)(v:(cN md ops listed).contains i=qv:=by kernel_rfl)
  (y:∀c a w,Q (.panic c) (a.put d.dst undef) w->Q (.panic c) a w:=by exact λ_ _ _ h=>h)(A:S w:=by assumption):wpAnyH P md ops Q S (fuel+1) listed a w:=
 wpAnyH_take f q u v y (.inr ⟨o,rfl⟩) A h
end
theorem BO (m:Mo)(g:Fn)(i:Ins)(w:World)(rB:i.op=14)(h:dn w m g i):
  zP 189 #[rh (jg m g),rh i.cells] w (Z U (aj m g.vs i)):=by
 have HE:ca (aj m g.vs i=dM (bv (!(ak g.vs i.d).1&&(ak g.vs i.a).1) 7) i.sign il):=by
  unfold ca aj;rw[rB];rfl
 obtain⟨R,hR⟩:=zE (aj m g.vs i);rw[hR] at HE⊢;clear hR;have sf:=zH h;obtain⟨N,A,hN,sn,sq,rI,⟨i0,i1,i2,i3,i4,i6⟩,HN,sr,rm,rK,sx,HT,HD,HA,HB⟩:=bI rB h;clear h rB;obtain⟨⟨ba,sa⟩,rn⟩:∃t,ak g.vs i.a=t:=⟨_,rfl⟩
 obtain⟨⟨bd,sd⟩,rr⟩:∃t,ak g.vs i.d=t:=⟨_,rfl⟩
 have sy:(ak g.vs i.a).1=ba:=by rw[rn]
 have sB:(ak g.vs i.a).2=sa:=by rw[rn]
 have sE:(ak g.vs i.d).1=bd:=by rw[rr]
 have sL:(ak g.vs i.d).2=sd:=by rw[rr]
 have HV:ca (∀v,v=i.a\/v=i.d->isVar g.vs.length v=qv):=λv h=>by rcases h with rfl|rfl;exact HA.out rfl;exact HD.out rfl
 have rL:ca (∀(W:World)(v:cj),aq A.heap.size A W->isVar g.vs.length v=qv->ft ac 188 #[rh #[ra m.sA m.ss.length m.sC,ra m.fA m.fs.length m.fC,qT g.c.nm,Z U g.c.par,ra g.c.varsA g.c.nvars g.c.varsC,re g.c.rp,qT g.c.rto,Z U g.c.rcl,ra g.c.fromA g.c.nfrom g.c.fromC,ra g.c.insA g.c.ins.length g.c.insC],Z U v] W λe w'=>e= rk (rh #[re (ak g.vs v).1,qT (ak g.vs v).2])/\aq A.heap.size A w'/\aq W.heap.size W w'):=by
  intro W v G hv;refine(HT.out W v (by rw[HN.out];exact rm.out.trans (G.mono (by omega))) hv).mono ?_;rintro e w' ⟨rfl,hb⟩;exact⟨rfl,G.trans (hb.mono G.size),hb⟩
 have rN:ca (R=dM (bv (!bd&&ba) 7) i.sign il):=by unfold ca;rw[HE.out,rn,rr]
 have rv:ca (∀(W:World)(rx:cd),aN W (qt ⟨rx,0,qu⟩) il->zS 226 #[Z U (bv (!bd&&ba) 7),qT i.sign,ra (qt ⟨rx,0,qu⟩) 2 2] W (Z U R)):=by
  intro W rx sk;rw[rN.out];exact mq _ i.sign il (qt ⟨rx,0,qu⟩) 2 W (by unfold dl il;simp) sk
 have rS:ca (∀W,aq A.heap.size A W->iI W N m g):=λW G=>iI.of ((G.block N (by omega)).trans rK.out);have q:ca (∀W,aq A.heap.size A W->W.cell? ⟨N,0,qu⟩=qt (ra m.sA m.ss.length m.sC)/\W.cell? ⟨N,1,qu⟩=qt (ra m.fA m.fs.length m.fC)/\W.cell? ⟨N,2,qu⟩=qt (qT g.c.nm)/\W.cell? ⟨N,3,qu⟩=qt (Z U g.c.par)/\W.cell? ⟨N,4,qu⟩=qt (ra g.c.varsA g.c.nvars g.c.varsC)/\W.cell? ⟨N,5,qu⟩=qt (re g.c.rp)/\W.cell? ⟨N,6,qu⟩=qt (qT g.c.rto)/\W.cell? ⟨N,7,qu⟩=qt (Z U g.c.rcl)/\W.cell? ⟨N,8,qu⟩=qt (ra g.c.fromA g.c.nfrom g.c.fromC)/\W.cell? ⟨N,9,qu⟩=qt (ra g.c.insA g.c.ins.length g.c.insC)/\W.cell? ⟨N+1,1,qu⟩=qt (Z U i.d)/\W.cell? ⟨N+1,2,qu⟩=qt (Z U i.a)/\W.cell? ⟨N+1,6,qu⟩=qt (qT i.sign)/\aq A.heap.size A W):=λW G=>by
  obtain⟨a0,a1,a2,a3,a4,a5,a6,a7,a8,a9⟩:=rS.out W G;exact⟨a0,a1,a2,a3,a4,a5,a6,a7,a8,a9,by rw[G.cell (p:=⟨N+1,1,qu⟩) rI];exact i1,by rw[G.cell (p:=⟨N+1,2,qu⟩) rI];exact i2,by rw[G.cell (p:=⟨N+1,6,qu⟩) rI];exact i6,G⟩
 have u:ca (∀(W:World)(B:cd),B=W.heap.size->aN (W.alloc (rj #[qT ⟨#[61,61]⟩,qT ⟨#[33,61]⟩] 9)) (qt ⟨B,0,qu⟩) il):=λW B hB=>pM hB;have sR:=jh;clear HE HD HA HB HT sf rn rr rS rN;cases bd with
 |false=>
  go_enter et,eh
  go_wp2_with (refine bo rfl 184 _ rfl N rfl 184 (jg m g) (0,0) _ rK.out cq rfl (by kernel_rfl) ?_)
  go_region_held3 (λw'=>w'.cell? ⟨N,0,qu⟩=qt (ra m.sA m.ss.length m.sC)/\w'.cell? ⟨N,1,qu⟩=qt (ra m.fA m.fs.length m.fC)/\w'.cell? ⟨N,2,qu⟩=qt (qT g.c.nm)/\w'.cell? ⟨N,3,qu⟩=qt (Z U g.c.par)/\w'.cell? ⟨N,4,qu⟩=qt (ra g.c.varsA g.c.nvars g.c.varsC)/\w'.cell? ⟨N,5,qu⟩=qt (re g.c.rp)/\w'.cell? ⟨N,6,qu⟩=qt (qT g.c.rto)/\w'.cell? ⟨N,7,qu⟩=qt (Z U g.c.rcl)/\w'.cell? ⟨N,8,qu⟩=qt (ra g.c.fromA g.c.nfrom g.c.fromC)/\w'.cell? ⟨N,9,qu⟩=qt (ra g.c.insA g.c.ins.length g.c.insC)/\w'.cell? ⟨N+1,1,qu⟩=qt (Z U i.d)/\w'.cell? ⟨N+1,2,qu⟩=qt (Z U i.a)/\w'.cell? ⟨N+1,6,qu⟩=qt (qT i.sign)/\aq A.heap.size A w')
   (first
    |(exact y)
    |(exact q.out _ (by first|exact(an _ _).drew|exact((an _ _).drew).alloc (by simp) _|exact f|exact f.alloc (by have:=f.size;omega) _|fail))
    |fail)
   (first
    |(go_at_call 188;refine(rL.out _ _ (by first|exact(an _ _).drew|exact((an _ _).drew).alloc (by simp) _|exact f|exact f.alloc (by have:=f.size;omega) _|fail) (HV.out _ (by first|exact .inl rfl|exact .inr rfl))).mono ?_;rintro e se ⟨rfl,f,D⟩;have y:=q.out _ f)
    |(go_at_call 99;refine(ay _ _ _).mono ?_;rintro e rl ⟨rfl,rfl⟩)
    |(go_at_call 226;refine(rv.out _ _ (by first|exact u.out _ _ rfl|(refine aN.below ?_ D;exact u.out _ _ rfl)|(refine aN.below ?_ D;refine aN.below ?_ ((an _ _).drew);exact u.out _ _ (by first|omega|(simp<;>omega)))|(refine aN.below ?_ D;refine aN.below ?_ (by assumption);refine aN.below ?_ ((an _ _).drew);exact u.out _ _ (by first|omega|(simp<;>omega)))|fail)).mono ?_;rintro e rl ⟨rfl,rfl⟩))
  all_goals
   clear y;go_wp2;go_ret;refine⟨rfl, ?_⟩;rw[HN.out];exact rm.out.trans (m9 (by first|exact f|exact f.alloc (by have:=f.size;omega) _) (by omega))
 |true=>
  go_enter et,eh
  go_wp2_with (refine bo rfl 184 _ rfl N rfl 184 (jg m g) (0,0) _ rK.out cq rfl (by kernel_rfl) ?_)
  refine wp_region_held_drew (S:=(λw'=>w'.cell? ⟨N,0,qu⟩=qt (ra m.sA m.ss.length m.sC)/\w'.cell? ⟨N,1,qu⟩=qt (ra m.fA m.fs.length m.fC)/\w'.cell? ⟨N,2,qu⟩=qt (qT g.c.nm)/\w'.cell? ⟨N,3,qu⟩=qt (Z U g.c.par)/\w'.cell? ⟨N,4,qu⟩=qt (ra g.c.varsA g.c.nvars g.c.varsC)/\w'.cell? ⟨N,5,qu⟩=qt (re g.c.rp)/\w'.cell? ⟨N,6,qu⟩=qt (qT g.c.rto)/\w'.cell? ⟨N,7,qu⟩=qt (Z U g.c.rcl)/\w'.cell? ⟨N,8,qu⟩=qt (ra g.c.fromA g.c.nfrom g.c.fromC)/\w'.cell? ⟨N,9,qu⟩=qt (ra g.c.insA g.c.ins.length g.c.insC)/\w'.cell? ⟨N+1,1,qu⟩=qt (Z U i.d)/\w'.cell? ⟨N+1,2,qu⟩=qt (Z U i.a)/\w'.cell? ⟨N+1,6,qu⟩=qt (qT i.sign)/\aq A.heap.size A w')) (by kernel_rfl) (q.out _ (an _ _).drew) (λJ=> ?_);refine zW 0 (rh #[ra m.sA m.ss.length m.sC,ra m.fA m.fs.length m.fC,qT g.c.nm,Z U g.c.par,ra g.c.varsA g.c.nvars g.c.varsC,re g.c.rp,qT g.c.rto,Z U g.c.rcl,ra g.c.fromA g.c.nfrom g.c.fromC,ra g.c.insA g.c.ins.length g.c.insC]) rfl ?_
  try simp only[cV,cm,cg,ap,bj,bk]
  refine zW 1 (rb (qt ⟨N+1,1,qu⟩)) rfl ?_
  try simp only[cV,cm,cg,ci,ap,bj,bk]
  refine zW 2 (Z U i.d) rfl ?_
  try simp only[cV,cm,cg,ci,ap,bj,bk]
  refine zW 14 (rb (qt ⟨N+1,6,qu⟩)) rfl ?_
  try simp only[cV,cm,cg,ci,ap,bj,bk]
  refine zW 15 (qT i.sign) rfl ?_
  try simp only[cV,cm,cg,ci,ap,bj,bk]
  refine it (rs:=[3,16]) (by kernel_rfl) (by simp) ?_;refine fa rfl (λK o=> ?_) ?_
  ·
   go_simp
   (go_at_call 188;refine(rL.out _ _ (by first|exact(an _ _).drew|exact((an _ _).drew).alloc (by simp) _|exact f|exact f.alloc (by have:=f.size;omega) _|fail) (HV.out _ (by first|exact .inl rfl|exact .inr rfl))).mono ?_;rintro e se ⟨rfl,f,D⟩;have y:=q.out _ f)
   go_wp2_with fail
   refine o.out _ _ (by first|exact y|exact q.out _ (by first|exact(an _ _).drew|exact((an _ _).drew).alloc (by simp) _|exact f|exact f.alloc (by have:=f.size;omega) _|fail)|fail) (λJ=> ?_);clear o K
   try simp only[cV,cm,cg,ci,ap,bj,bk]
   refine zW 4 (re qv) rfl ?_
   try simp only[cV,cm,cg,ci,ap,bj,bk]
   refine zW 5 (re qS) rfl ?_
   try simp only[cV,cm,cg,ci,ap,bj,bk]
   refine zW 6 (re qS) rfl ?_
   try simp only[cV,cm,cg,ci,ap,bj,bk]
   refine zX 7 rfl ?_
   try simp only[cV,cm,cg,ci,ap,bj,bk]
   refine zX 8 rfl ?_
   try simp only[cV,cm,cg,ci,ap,bj,bk]
   refine zX 9 rfl ?_
   try simp only[cV,cm,cg,ci,ap,bj,bk]
   refine zX 10 rfl ?_
   try simp only[cV,cm,cg,ci,ap,bj,bk]
   refine zX 11 rfl ?_
   try simp only[cV,cm,cg,ci,ap,bj,bk]
   refine zW 12 (re qS) rfl ?_
   try simp only[cV,cm,cg,ci,ap,bj,bk]
   refine it (rs:=[13,16]) (by kernel_rfl) (by simp) ?_;refine fa rfl (λK o=> ?_) ?_
   ·
    go_simp
    (go_at_call 99;refine(ay _ _ _).mono ?_;rintro e rl ⟨rfl,rfl⟩)
    go_wp2_with fail
    refine o.out _ _ (by first|exact y|exact q.out _ (by first|exact(an _ _).drew|exact((an _ _).drew).alloc (by simp) _|exact f|exact f.alloc (by have:=f.size;omega) _|fail)|fail) (λJ=> ?_);clear o K
    try simp only[cV,cm,cg,ci,ap,bj,bk]
    refine it (rs:=[16]) (by kernel_rfl) (by simp) ?_;refine fa rfl (λK o=> ?_) ?_
    ·
     go_simp;refine o.out _ _ (by first|exact y|exact q.out _ (by first|exact(an _ _).drew|exact((an _ _).drew).alloc (by simp) _|exact f|exact f.alloc (by have:=f.size;omega) _|fail)|fail) (λJ=> ?_);clear o K
     try simp only[cV,cm,cg,ci,ap,bj,bk]
     refine it (rs:=[17]) (by kernel_rfl) (by simp) ?_;refine fa rfl (λK o=> ?_) ?_
     ·
      go_simp
      (go_at_call 226;refine(rv.out _ _ (by first|exact u.out _ _ rfl|(refine aN.below ?_ D;exact u.out _ _ rfl)|(refine aN.below ?_ D;refine aN.below ?_ ((an _ _).drew);exact u.out _ _ (by first|omega|(simp<;>omega)))|(refine aN.below ?_ D;refine aN.below ?_ (by assumption);refine aN.below ?_ ((an _ _).drew);exact u.out _ _ (by first|omega|(simp<;>omega)))|fail)).mono ?_;rintro e rl ⟨rfl,rfl⟩)
      go_wp2_with fail
      refine o.out _ _ (by first|exact y|exact q.out _ (by first|exact(an _ _).drew|exact((an _ _).drew).alloc (by simp) _|exact f|exact f.alloc (by have:=f.size;omega) _|fail)|fail) (λJ=> ?_);clear o K
      try simp only[cV,cm,cg,ci,ap,bj,bk]
      refine zW 18 (Z U R) rfl ?_
      try simp only[cV,cm,cg,ci,ap,bj,bk]
      refine wpAnyH_done (by kernel_rfl) ?_ _;go_wp2;go_ret;refine⟨rfl, ?_⟩;rw[HN.out];exact rm.out.trans (m9 (by first|exact f|exact f.alloc (by have:=f.size;omega) _) (by omega))
     exact gj
    exact gj
   refine fa rfl (λK o=> ?_) ?_
   ·
    go_simp;refine o.out _ _ (by first|exact y|exact q.out _ (by first|exact(an _ _).drew|exact((an _ _).drew).alloc (by simp) _|exact f|exact f.alloc (by have:=f.size;omega) _|fail)|fail) (λJ=> ?_);clear o K
    try simp only[cV,cm,cg,ci,ap,bj,bk]
    refine it (rs:=[13]) (by kernel_rfl) (by simp) ?_;refine fa rfl (λK o=> ?_) ?_
    ·
     go_simp
     (go_at_call 99;refine(ay _ _ _).mono ?_;rintro e rl ⟨rfl,rfl⟩)
     go_wp2_with fail
     refine o.out _ _ (by first|exact y|exact q.out _ (by first|exact(an _ _).drew|exact((an _ _).drew).alloc (by simp) _|exact f|exact f.alloc (by have:=f.size;omega) _|fail)|fail) (λJ=> ?_);clear o K
     try simp only[cV,cm,cg,ci,ap,bj,bk]
     refine it (rs:=[17]) (by kernel_rfl) (by simp) ?_;refine fa rfl (λK o=> ?_) ?_
     ·
      go_simp
      (go_at_call 226;refine(rv.out _ _ (by first|exact u.out _ _ rfl|(refine aN.below ?_ D;exact u.out _ _ rfl)|(refine aN.below ?_ D;refine aN.below ?_ ((an _ _).drew);exact u.out _ _ (by first|omega|(simp<;>omega)))|(refine aN.below ?_ D;refine aN.below ?_ (by assumption);refine aN.below ?_ ((an _ _).drew);exact u.out _ _ (by first|omega|(simp<;>omega)))|fail)).mono ?_;rintro e rl ⟨rfl,rfl⟩)
      go_wp2_with fail
      refine o.out _ _ (by first|exact y|exact q.out _ (by first|exact(an _ _).drew|exact((an _ _).drew).alloc (by simp) _|exact f|exact f.alloc (by have:=f.size;omega) _|fail)|fail) (λJ=> ?_);clear o K
      try simp only[cV,cm,cg,ci,ap,bj,bk]
      refine zW 18 (Z U R) rfl ?_
      try simp only[cV,cm,cg,ci,ap,bj,bk]
      refine wpAnyH_done (by kernel_rfl) ?_ _;go_wp2;go_ret;refine⟨rfl, ?_⟩;rw[HN.out];exact rm.out.trans (m9 (by first|exact f|exact f.alloc (by have:=f.size;omega) _) (by omega))
     exact gj
    exact gj
   exact gj
  refine fa rfl (λK o=> ?_) ?_
  ·
   go_simp;refine o.out _ _ (by first|exact y|exact q.out _ (by first|exact(an _ _).drew|exact((an _ _).drew).alloc (by simp) _|exact f|exact f.alloc (by have:=f.size;omega) _|fail)|fail) (λJ=> ?_);clear o K
   try simp only[cV,cm,cg,ci,ap,bj,bk]
   refine it (rs:=[3]) (by kernel_rfl) (by simp) ?_;refine fa rfl (λK o=> ?_) ?_
   ·
    go_simp
    (go_at_call 188;refine(rL.out _ _ (by first|exact(an _ _).drew|exact((an _ _).drew).alloc (by simp) _|exact f|exact f.alloc (by have:=f.size;omega) _|fail) (HV.out _ (by first|exact .inl rfl|exact .inr rfl))).mono ?_;rintro e se ⟨rfl,f,D⟩;have y:=q.out _ f)
    go_wp2_with fail
    refine o.out _ _ (by first|exact y|exact q.out _ (by first|exact(an _ _).drew|exact((an _ _).drew).alloc (by simp) _|exact f|exact f.alloc (by have:=f.size;omega) _|fail)|fail) (λJ=> ?_);clear o K
    try simp only[cV,cm,cg,ci,ap,bj,bk]
    refine zW 4 (re qv) rfl ?_
    try simp only[cV,cm,cg,ci,ap,bj,bk]
    refine zW 5 (re qS) rfl ?_
    try simp only[cV,cm,cg,ci,ap,bj,bk]
    refine zW 6 (re qS) rfl ?_
    try simp only[cV,cm,cg,ci,ap,bj,bk]
    refine zX 7 rfl ?_
    try simp only[cV,cm,cg,ci,ap,bj,bk]
    refine zX 8 rfl ?_
    try simp only[cV,cm,cg,ci,ap,bj,bk]
    refine zX 9 rfl ?_
    try simp only[cV,cm,cg,ci,ap,bj,bk]
    refine zX 10 rfl ?_
    try simp only[cV,cm,cg,ci,ap,bj,bk]
    refine zX 11 rfl ?_
    try simp only[cV,cm,cg,ci,ap,bj,bk]
    refine zW 12 (re qS) rfl ?_
    try simp only[cV,cm,cg,ci,ap,bj,bk]
    refine it (rs:=[13]) (by kernel_rfl) (by simp) ?_;refine fa rfl (λK o=> ?_) ?_
    ·
     go_simp
     (go_at_call 99;refine(ay _ _ _).mono ?_;rintro e rl ⟨rfl,rfl⟩)
     go_wp2_with fail
     refine o.out _ _ (by first|exact y|exact q.out _ (by first|exact(an _ _).drew|exact((an _ _).drew).alloc (by simp) _|exact f|exact f.alloc (by have:=f.size;omega) _|fail)|fail) (λJ=> ?_);clear o K
     try simp only[cV,cm,cg,ci,ap,bj,bk]
     refine it (rs:=[17]) (by kernel_rfl) (by simp) ?_;refine fa rfl (λK o=> ?_) ?_
     ·
      go_simp
      (go_at_call 226;refine(rv.out _ _ (by first|exact u.out _ _ rfl|(refine aN.below ?_ D;exact u.out _ _ rfl)|(refine aN.below ?_ D;refine aN.below ?_ ((an _ _).drew);exact u.out _ _ (by first|omega|(simp<;>omega)))|(refine aN.below ?_ D;refine aN.below ?_ (by assumption);refine aN.below ?_ ((an _ _).drew);exact u.out _ _ (by first|omega|(simp<;>omega)))|fail)).mono ?_;rintro e rl ⟨rfl,rfl⟩)
      go_wp2_with fail
      refine o.out _ _ (by first|exact y|exact q.out _ (by first|exact(an _ _).drew|exact((an _ _).drew).alloc (by simp) _|exact f|exact f.alloc (by have:=f.size;omega) _|fail)|fail) (λJ=> ?_);clear o K
      try simp only[cV,cm,cg,ci,ap,bj,bk]
      refine zW 18 (Z U R) rfl ?_
      try simp only[cV,cm,cg,ci,ap,bj,bk]
      refine wpAnyH_done (by kernel_rfl) ?_ _;go_wp2;go_ret;refine⟨rfl, ?_⟩;rw[HN.out];exact rm.out.trans (m9 (by first|exact f|exact f.alloc (by have:=f.size;omega) _) (by omega))
     exact gj
    exact gj
   exact gj
  exact gj
def nA:bm aw:=[⟨#[110,117,109]⟩,⟨#[110,117,108,108]⟩,⟨#[99,111,112,121]⟩,⟨#[98,105,110]⟩,⟨#[103,101,116]⟩,⟨#[112,117,116]⟩,⟨#[108,111,97,100]⟩,⟨#[115,116,111,114,101]⟩,⟨#[103,105,118,101]⟩,⟨#[116,97,107,101]⟩,⟨#[115,101,116]⟩,⟨#[110,101,119]⟩,⟨#[102,114,101,101]⟩,⟨#[105,115,110,117,108,108]⟩,⟨#[99,97,108,108]⟩,⟨#[106,117,109,112]⟩,⟨#[98,114,97,110,99,104]⟩,⟨#[114,101,116]⟩]
def iq (op:cj):aw:=if op<1\/18<op then⟨#[]⟩ else(nA[(op-1).toNat]?).getD ⟨#[]⟩
theorem sU {op:cj}(o:¬op<1)(q:¬18<op):∃(k:cd) (s:aw),op-1=(k:cj)/\k<18/\nA[k]?=qt s/\iq op=s:=by
 obtain⟨k,d⟩:∃k:cd,op-1=(k:cj):=⟨(op-1).toNat,by omega⟩
 have f:k<18:=by omega
 obtain⟨s,h⟩:∃s,nA[k]?=qt s:=⟨_,am (show k<nA.length from f)⟩
 refine⟨k,s,d,f,h, ?_⟩;unfold iq;rw[cw (by omega),d,ep,h];rfl
theorem wQ {op:cj}:(iq op==⟨#[]⟩)=(decide (op<1)||decide (18<op)):=by
 by_cases h:op<1\/18<op
 ·have e:iq op=⟨#[]⟩:=cI h
  rw[e];rcases h with h|h
  ·rw[dy h];rfl
  ·rw[dy h,Bool.or_true];rfl
 ·obtain⟨k,s,q,d,f,o⟩:=sU (op:=op) (by omega) (by omega)
  rw[o,cv (by omega),cv (by omega)];have:∀j:cd,j<18->∀s,nA[j]?=qt s->(s==(⟨#[]⟩:aw))=qS:=by decide
  exact this k d s f
theorem jC (op:cj)(w:World):zP 183 #[Z U op] w (qT (iq op)):=by
 have hst:∀(c:cG bw),c.size=18->(cU ⟨w.heap.size,0,qu⟩ [qT ⟨#[110,117,109]⟩,qT ⟨#[110,117,108,108]⟩,qT ⟨#[99,111,112,121]⟩,qT ⟨#[98,105,110]⟩,qT ⟨#[103,101,116]⟩,qT ⟨#[112,117,116]⟩,qT ⟨#[108,111,97,100]⟩,qT ⟨#[115,116,111,114,101]⟩,qT ⟨#[103,105,118,101]⟩,qT ⟨#[116,97,107,101]⟩,qT ⟨#[115,101,116]⟩,qT ⟨#[110,101,119]⟩,qT ⟨#[102,114,101,101]⟩,qT ⟨#[105,115,110,117,108,108]⟩,qT ⟨#[99,97,108,108]⟩,qT ⟨#[106,117,109,112]⟩,qT ⟨#[98,114,97,110,99,104]⟩,qT ⟨#[114,101,116]⟩] 0).run ac (w.alloc (rj c 316))= .ok () (w.alloc (rj #[qT ⟨#[110,117,109]⟩,qT ⟨#[110,117,108,108]⟩,qT ⟨#[99,111,112,121]⟩,qT ⟨#[98,105,110]⟩,qT ⟨#[103,101,116]⟩,qT ⟨#[112,117,116]⟩,qT ⟨#[108,111,97,100]⟩,qT ⟨#[115,116,111,114,101]⟩,qT ⟨#[103,105,118,101]⟩,qT ⟨#[116,97,107,101]⟩,qT ⟨#[115,101,116]⟩,qT ⟨#[110,101,119]⟩,qT ⟨#[102,114,101,101]⟩,qT ⟨#[105,115,110,117,108,108]⟩,qT ⟨#[99,97,108,108]⟩,qT ⟨#[106,117,109,112]⟩,qT ⟨#[98,114,97,110,99,104]⟩,qT ⟨#[114,101,116]⟩] 316)):=λc v=>
  cf (P:=ac) w 316 c #[qT ⟨#[110,117,109]⟩,qT ⟨#[110,117,108,108]⟩,qT ⟨#[99,111,112,121]⟩,qT ⟨#[98,105,110]⟩,qT ⟨#[103,101,116]⟩,qT ⟨#[112,117,116]⟩,qT ⟨#[108,111,97,100]⟩,qT ⟨#[115,116,111,114,101]⟩,qT ⟨#[103,105,118,101]⟩,qT ⟨#[116,97,107,101]⟩,qT ⟨#[115,101,116]⟩,qT ⟨#[110,101,119]⟩,qT ⟨#[102,114,101,101]⟩,qT ⟨#[105,115,110,117,108,108]⟩,qT ⟨#[99,97,108,108]⟩,qT ⟨#[106,117,109,112]⟩,qT ⟨#[98,114,97,110,99,104]⟩,qT ⟨#[114,101,116]⟩] (by show _=qt 18;kernel_rfl) v (by simp[br])
 have R:∀w,(Instr.build 316 #[(0,qT ⟨#[110,117,109]⟩),(1,qT ⟨#[110,117,108,108]⟩),(2,qT ⟨#[99,111,112,121]⟩),(3,qT ⟨#[98,105,110]⟩),(4,qT ⟨#[103,101,116]⟩),(5,qT ⟨#[112,117,116]⟩),(6,qT ⟨#[108,111,97,100]⟩),(7,qT ⟨#[115,116,111,114,101]⟩),(8,qT ⟨#[103,105,118,101]⟩),(9,qT ⟨#[116,97,107,101]⟩),(10,qT ⟨#[115,101,116]⟩),(11,qT ⟨#[110,101,119]⟩),(12,qT ⟨#[102,114,101,101]⟩),(13,qT ⟨#[105,115,110,117,108,108]⟩),(14,qT ⟨#[99,97,108,108]⟩),(15,qT ⟨#[106,117,109,112]⟩),(16,qT ⟨#[98,114,97,110,99,104]⟩),(17,qT ⟨#[114,101,116]⟩)]).run ac w= .ok (rh #[qT ⟨#[110,117,109]⟩,qT ⟨#[110,117,108,108]⟩,qT ⟨#[99,111,112,121]⟩,qT ⟨#[98,105,110]⟩,qT ⟨#[103,101,116]⟩,qT ⟨#[112,117,116]⟩,qT ⟨#[108,111,97,100]⟩,qT ⟨#[115,116,111,114,101]⟩,qT ⟨#[103,105,118,101]⟩,qT ⟨#[116,97,107,101]⟩,qT ⟨#[115,101,116]⟩,qT ⟨#[110,101,119]⟩,qT ⟨#[102,114,101,101]⟩,qT ⟨#[105,115,110,117,108,108]⟩,qT ⟨#[99,97,108,108]⟩,qT ⟨#[106,117,109,112]⟩,qT ⟨#[98,114,97,110,99,104]⟩,qT ⟨#[114,101,116]⟩]) w:=λw=>by kernel_rfl
 obtain⟨N,f⟩:=zE w.heap.size;obtain⟨q,o⟩:=zE (w.alloc (rj #[qT ⟨#[110,117,109]⟩,qT ⟨#[110,117,108,108]⟩,qT ⟨#[99,111,112,121]⟩,qT ⟨#[98,105,110]⟩,qT ⟨#[103,101,116]⟩,qT ⟨#[112,117,116]⟩,qT ⟨#[108,111,97,100]⟩,qT ⟨#[115,116,111,114,101]⟩,qT ⟨#[103,105,118,101]⟩,qT ⟨#[116,97,107,101]⟩,qT ⟨#[115,101,116]⟩,qT ⟨#[110,101,119]⟩,qT ⟨#[102,114,101,101]⟩,qT ⟨#[105,115,110,117,108,108]⟩,qT ⟨#[99,97,108,108]⟩,qT ⟨#[106,117,109,112]⟩,qT ⟨#[98,114,97,110,99,104]⟩,qT ⟨#[114,101,116]⟩] 316));have y:=gQ o f;have d:=zH y;have u:=zH f;have rl:q.heap.size=N+1:=by rw[<-o];simp[f]
 have A:q.heap[N]?=qt (rj (nA.map em).toArray 316 (0,0)):=by rw[<-o,<-f];exact alloc_at _ _
 rw[f,o] at hst;clear y
 by_cases D:op<1
 ·have h:ca (iq op=⟨#[]⟩):=cI (.inl D)
  go_enter func183,ntmps183;go_wp2;go_ret;rw[h.out];exact⟨rfl,by first|exact d.out|(rw[u.out];exact d.out)⟩
 by_cases G:18<op
 ·have h:ca (iq op=⟨#[]⟩):=cI (.inr G)
  go_enter func183,ntmps183;go_wp2;go_ret;rw[h.out];exact⟨rfl,by first|exact d.out|(rw[u.out];exact d.out)⟩
 obtain⟨k,s,hk,rm,J,K⟩:=sU D G;have v:q.cell? ⟨N,k,qu⟩=qt (qT s):=by
  rw[bh _ _ _ _ _ _ A];simp[J]
 have h:=zH K;have rn:(k:cj)<18:=by omega
 clear A J K;go_enter func183,ntmps183;go_wp2;go_ret;rw[h.out];exact⟨rfl,by first|exact d.out|(rw[u.out];exact d.out)⟩
theorem nZ (m:Mo)(g:Fn)(i:Ins)(w:World)(f:1<=i.op/\i.op<=14)(h:dn w m g i):
  zP 189 #[rh (jg m g),rh i.cells] w (Z U (aj m g.vs i)):=by
 have d:i.op=1\/i.op=2\/i.op=3\/i.op=4\/i.op=5\/i.op=6\/i.op=7\/i.op=8\/i.op=9\/i.op=10\/i.op=11\/i.op=12\/i.op=13\/i.op=14:=by omega
 rcases d with e|e|e|e|e|e|e|e|e|e|e|e|e|e
 ·exact CQ m g i w e h
 ·exact CV m g i w e h
 ·exact CU m g i w e h
 ·exact CZ m g i w e h
 ·exact CR m g i w e h
 ·exact CS m g i w e h
 ·exact CW m g i w e h
 ·exact CX m g i w e h
 ·exact CY m g i w e h
 ·exact BL m g i w e h
 ·exact BM m g i w e h
 ·exact BN m g i w e h
 ·exact BJ m g i w e h
 ·exact BO m g i w e h
structure C8 (w:World)(m:Mo)(g:Fn)(i:Ins):Prop where
 j:mr w m g
 ar:i.args_in w
 al:i.args.length<=40
 kn:∀v,isVar g.vs.length v=qv->m.known (ak g.vs v)=qv
theorem jD {d W:World}{N:cd}(f:aq d.heap.size d W){o:Obj}(h:d.heap[N]?=qt o):W.heap[N]?=qt o:=
 (f.block N (bb.1 h).1).trans h
theorem mE (op:cj):(iq op).toList.isEmpty=(decide (op<1)||decide (18<op)):=by
 rw[<-wQ,eL];have e:(⟨#[]⟩:aw).toList=[]:=by rw[mN]
 rw[e];cases (iq op).toList<;>rfl
def iw (d:World)(N:cd)(m:Mo)(g:Fn)(i:Ins):Prop:=∀W,aq d.heap.size d W->W.heap[N]?=qt (rj (jg m g) 184 (0,0))/\W.heap[N+1]?=qt (rj i.cells 42 (0,0))
theorem iw.next {d f:World}{N:cd}{m:Mo}{g:Fn}{i:Ins}(h:iw d N m g i)(o:aq d.heap.size d f):iw f N m g i:=λW q=>h W (o.trans (q.mono o.size))
theorem iw.lt {d:World}{N:cd}{m:Mo}{g:Fn}{i:Ins}(h:iw d N m g i):N+1<d.heap.size:=(bb.1 (h d (an _ _)).2).1
def dx (m:Mo)(g:Fn)(i:Ins):cj:=
 if i.op=15 then gD m g.vs i
 else if i.op=16 then bv (isVar g.c.ins.length i.tI) 15
 else if i.op=17 then(if isVar g.c.ins.length i.tI&&isVar g.c.ins.length i.els then dB g.vs [i.a] else 15)
 else if i.op=18 then bv (ak g.vs i.a==g.ret) 7
 else aj m g.vs i
theorem uR {m:Mo}{g:Fn}{i:Ins}(h:¬(i.op<1\/18<i.op)):aC m g i=if aG g.vs.length (readsOf i++(if ou i.op then[i.d] else[]))=qS then 15 else dx m g i:=cw h
theorem sV {n:cd}{l:bm cj}(h:aG n l=qv){v:cj}(d:v∈l):isVar n v=qv:=gC.1 h v d
theorem nC {i:Ins}{l:bm cj}(h:rM i.op=qv):i.a∈readsOf i++l:=by unfold readsOf;rw[cI h];simp
theorem BP {i:Ins}{l:bm cj}(h:qU i.op=qv):i.b∈readsOf i++l:=by unfold readsOf;rw[cI h];simp
theorem sW {i:Ins}{l:bm cj}(h:i.op=15){a:cj}(d:a∈i.args):a∈readsOf i++l:=by unfold readsOf;rw[cI h];simp[d]
theorem zz {i:Ins}(h:ou i.op=qv):i.d∈readsOf i++(if ou i.op then[i.d] else[]):=by rw[cI h];simp
theorem wR (m:Mo)(g:Fn)(i:Ins)(w:World)(h:C8 w m g i):
  zP 136 #[rh (jg m g),rh i.cells] w (Z U (aC m g i)):=by
 have rv:=zH h;obtain⟨R,hR⟩:=zE (aC m g i);rw[hR];have HR:=zH hR;clear h hR;obtain⟨N,hN⟩:=zE w.heap.size;obtain⟨W1,tR⟩:=zE ((w.alloc (rj (jg m g) 184)).alloc (rj i.cells 42));have vi:=qQ tR hN;have ws:W1.heap.size=N+2:=by rw[<-tR];simp[hN]
 have vj:=vN tR hN;have ua:=xI tR hN;have i0:=zR ua 0 (Z U i.op);have tS:ca (iw W1 N m g i):=λW hW=>⟨jD hW vj,jD hW ua⟩
 have ub:=zH vi;have y:=zH hN;have wx:N+1<W1.heap.size:=by omega
 clear vi vj ua
 by_cases ti:i.op<1\/18<i.op
 ·have o:ca (R=3):=by unfold ca;rw[<-HR.out];exact cI ti
  have uc:(iq i.op).toList.isEmpty=qv:=by rw[mE];simpa using ti
  clear ti;go_enter func136,ntmps136
  go_wp2_with (go_at_call 183;refine(jC _ _).mono ?_;rintro e w2 ⟨rfl,sx⟩;have sy:=zH sx;clear sx)
  go_ret;rw[o.out,y.out];exact⟨rfl,ub.out.trans (sy.out.mono (by omega))⟩
 have rN:=zH (uR (m:=m) (g:=g) ti);rw[HR.out] at rN;have vm:=zH ti;have uc:(iq i.op).toList.isEmpty=qS:=by
  rw[mE,cv (by omega),cv (by omega)];rfl
 clear ti HR;have tp:ca (∀W,aq w.heap.size w W->ft ac 144 #[rh i.cells] W (jN W (readsOf i))):=λW hW=>rO i W (rv.out.ar.below hW) rv.out.al;have tj:ca (∀W,zP 142 #[rh i.cells] W (.tuple #[Z U (aS i).1,re (aS i).2])):=λW=>pF i W rv.out.ar.1;have tl:ca ((readsOf i).length<=42):=wH i rv.out.al;obtain⟨rs,ud⟩:=zE (readsOf i);have tU:=zH ud;rw[ud] at tp tl;clear ud;go_enter func136,ntmps136;cases hd:ou i.op with
 |true=>
  have e1:(aS i).1=i.d:=by unfold aS;rw[hd];rfl
  have e2:(aS i).2=qv:=by unfold aS;rw[hd];rfl
  rw[e1,e2] at tj;clear e1 e2
  go_upto_region 6 with(first
   |(go_at_call 183;refine(jC _ _).mono ?_;rintro e w2 ⟨rfl,sx⟩;have rS:=zH (tS.out.next sx);have sy:ca (aq N w w2):=ub.out.trans (sx.mono (by omega));clear sx)
   |(refine bo rfl 42 _ rfl (N+1) rfl 42 i.cells (0,0) _ ((rS.out _ (an _ _)).2) cr rfl (by kernel_rfl) ?_)
   |(refine bo rfl 42 _ rfl (N+1) rfl 42 i.cells (0,0) _ ((sB.out _ (an _ _)).2) cr rfl (by kernel_rfl) ?_)
   |(go_at_call 144;refine(tp.out _ (by rw[y.out];exact sy.out)).mono ?_;rintro e w3 ⟨tr,tt,rfl,tv,sE⟩;have tz:=zH tv;have sB:=zH (rS.out.next sE);have tA:ca (aq N w w3):=sy.out.trans (sE.mono (by have:=rS.out.lt;omega));have vu:=sE.size;clear sE tv)
   |(go_at_call 142;refine(tj.out _).mono ?_;rintro e w4 ⟨rfl,se⟩;have vn:=zH (sB.out.next se);have tm:=zH (ownsRow_below tz.out se);have vp:ca (aq N w w4):=tA.out.trans (se.mono (by have:=sB.out.lt;omega));have vx:=se.size;clear se))
  go_upto_region 7 with(at_builtin;refine aK rfl (.tmp 20) (.tmp 22) rfl w2.heap.size (ra tr rs.length tt) rs rfl (ownsRow_below tm.out ((an _ _).alloc (bp _) _)) _ [i.d] 1 rfl (au.one _ _ rfl) ?c1 ?c2 ?_)
  case c1=>have:=tl.out;simp;omega
  case c2=>simp;omega
  intro v5 w5 tW vq;obtain⟨vr,vt,rfl⟩:=tW.isSlice;have tn:aq w2.heap.size w4 w5:=below_grown (v:= ra tr rs.length tt) (xs:=rs) ((an _ _).alloc (by omega) _) (by simp;omega) (ownsRow_below tm.out ((an _ _).alloc (bp _) _)) vq;have vy:=rS.out.lt;have sT:ca (aq N w w5):=vp.out.trans (tn.mono (by omega));have sX:ca (iw w5 N m g i):=λW hW=>by
   have q:=vn.out w4 (an _ _);have h5:=tn.size;exact⟨(hW.block N (by omega)).trans ((tn.block N (by omega)).trans q.1),(hW.block (N+1) (by omega)).trans ((tn.block (N+1) (by omega)).trans q.2)⟩
  have wa:=tn.size;obtain⟨L5,tB⟩:=zE (rs++[i.d]);rw[tB] at tW;have HL:ca (L5=readsOf i++(if ou i.op then[i.d] else[])):=by unfold ca;rw[hd,tU.out,<-tB];rfl
  have sL:ca (zP 184 #[rh (jg m g),ra vr L5.length vt] w5 (re (aG g.vs.length L5))):=
   nY m g vr L5 vt w5 rv.out.j.nv (by have:=tl.out;rw[<-tB];unfold dl;simp;omega) tW.at_
  rw[<-HL.out] at rN;rw[tB];have wb:=zH hd;clear tW vq tn tz tm rS sB vn tS sy tA vp tB tp tj tl tU uc i0 hd;have sY:=zH (sX.out w5 (an _ _));obtain⟨tb,sR⟩:=zE (aG g.vs.length L5);rw[sR] at sL;rw[sR] at rN;have tD:=zH sR;clear sR;cases tb with
  |false=>
   have o:ca (R=15):=rN.out
   go_wp2_with (first
    |(refine bo rfl 184 _ rfl N rfl 184 (jg m g) (0,0) _ (sY.out.1) cq rfl (by kernel_rfl) ?_)
    |(go_at_call 184;refine sL.out.mono ?_;rintro e f ⟨rfl,sf⟩;have sk:=zH sf;clear sf))
   go_ret;rw[o.out,y.out];exact⟨rfl,sT.out.trans (sk.out.mono (by omega))⟩
  |true=>
   have G:ca (R=dx m g i):=rN.out;clear rN
   go_upto_region 9 with(first
    |(refine bo rfl 184 _ rfl N rfl 184 (jg m g) (0,0) _ (sY.out.1) cq rfl (by kernel_rfl) ?_)
    |(go_at_call 184;refine sL.out.mono ?_;rintro e f ⟨rfl,sf⟩;have sk:=zH sf;clear sf))
   have sn:ca (iw f N m g i):=sX.out.next sk.out
   have rn:ca (aq N w f):=sT.out.trans (sk.out.mono (by omega));have we:=sn.out.lt;have J:=zH (sn.out f (an _ _));have sq:ca (mr f m g):=rv.out.j.below (by rw[y.out];exact rn.out);have z0:=zR J.out.2 0 (Z U i.op);have z2:=zR J.out.2 2 (Z U i.a);have z9:=zR J.out.2 9 (Z U i.tI);have tE:=zR J.out.2 10 (Z U i.els);have rx:ca (∀v∈L5,isVar g.vs.length v=qv):=λv hv=>sV tD.out hv;clear sX sL sk sT sY tD
   by_cases K:i.op=15
   ·have o:ca (R=gD m g.vs i):=by unfold ca;rw[G.out];exact cI K
    have ue:ca (zP 185 #[rh (jg m g),rh i.cells] f (Z U (gD m g.vs i))):=
     pK m g i f sq.out (rv.out.ar.below (by rw[y.out];exact rn.out)) (by have:=rv.out.al;unfold dl;omega) (rx.out _ (by rw[HL.out];exact zz (by rw[K];rfl))) (λa ha=>rx.out a (by rw[HL.out];exact sW K ha))
    rw[K] at z0;clear G
    go_wp2_with (first
     |(refine bo rfl 184 _ rfl N rfl 184 (jg m g) (0,0) _ (J.out.1) cq rfl (by kernel_rfl) ?_)
     |(refine bo rfl 42 _ rfl (N+1) rfl 42 i.cells (0,0) _ (J.out.2) cr rfl (by kernel_rfl) ?_)
     |(go_at_call 185;refine ue.out.mono ?_;rintro e u ⟨rfl,D⟩;have rB:=zH D;clear D))
    go_ret;rw[o.out,y.out];exact⟨rfl,rn.out.trans (rB.out.mono (by omega))⟩
   have wg:(i.op==15)=qS:=by rw[cR];exact K
   by_cases rI:i.op=16
   ·have o:ca (R=bv (isVar g.c.ins.length i.tI) 15):=by unfold ca;rw[G.out];unfold dx;rw[cw K,cI rI]
    rw[rI] at z0;clear G
    go_wp2_with (first
     |(refine bo rfl 184 _ rfl N rfl 184 (jg m g) (0,0) _ (J.out.1) cq rfl (by kernel_rfl) ?_)
     |(go_at_call 186;refine(fK m g i.tI f).mono ?_;rintro e u ⟨rfl,D⟩;have rB:=zH D;clear D)
     |(go_at_call 99;refine(ay _ _ _).mono ?_;rintro e w8 ⟨rfl,rfl⟩))
    go_ret;rw[o.out,y.out];exact⟨rfl,rn.out.trans (rB.out.mono (by omega))⟩
   have wi:(i.op==16)=qS:=by rw[cR];exact rI
   by_cases rK:i.op=17
   ·have o:ca (R=if isVar g.c.ins.length i.tI&&isVar g.c.ins.length i.els then dB g.vs [i.a] else 15):=by unfold ca;rw[G.out];unfold dx;rw[cw K,cw rI,cI rK]
    have te:ca (isVar g.vs.length i.a=qv):=rx.out _ (by rw[HL.out];exact nC (by rw[rK];rfl));rw[rK] at z0;obtain⟨t1,ur⟩:=zE (isVar g.c.ins.length i.tI);obtain⟨t2,uv⟩:=zE (isVar g.c.ins.length i.els);rw[ur,uv] at o;clear G;cases t1 with
    |false=>
     go_wp2_with (first
      |(refine bo rfl 184 _ rfl N rfl 184 (jg m g) (0,0) _ (J.out.1) cq rfl (by kernel_rfl) ?_)
      |(go_at_call 186;refine(fK m g _ _).mono ?_;rintro e u ⟨rfl,D⟩;have rB:=zH D;clear D))
     go_ret;rw[o.out,y.out];exact⟨rfl,rn.out.trans (rB.out.mono (by omega))⟩
    |true=>
     have tG:ca (∀(W:World)(v:cj),iw W N m g i->aq N w W->ft ac 186 #[rh (jg m g),Z U v] W λe w'=>e= rk (re (isVar g.c.ins.length v))/\iw w' N m g i/\aq N w w'):=λW v hW hB=>(fK m g v W).mono (by
      rintro e w' ⟨rfl,hb⟩;exact⟨rfl,hW.next hb,hB.trans (hb.mono (by have:=hW.lt;omega))⟩)
     have rm:=sn;have rr:=rn;cases t2 with
     |false=>
      go_wp2_with (first
       |(refine bo rfl 184 _ rfl N rfl 184 (jg m g) (0,0) _ ((rm.out _ (an _ _)).1) cq rfl (by kernel_rfl) ?_)
       |(go_at_call 186;refine(tG.out _ _ rm.out rr.out).mono ?_;clear rm rr;rintro e u ⟨rfl,A,sr⟩;have ux:=A.lt;obtain⟨y0,y1,y2,y3,y4,y5,y6,y7,y8,y9⟩:=iI.of (A u (an _ _)).1;have tE:u.cell? ⟨N+1,10,qu⟩=qt (Z U i.els):=bh _ _ _ _ _ _ (A u (an _ _)).2;have rm:=zH A;have rr:=zH sr;clear A sr))
      go_ret;rw[o.out,y.out];exact⟨rfl,rr.out⟩
     |true=>
      have va:ca (∀(W:World),iw W N m g i->aq N w W->ft ac 187 #[rh (jg m g),ra (qt ⟨W.heap.size,0,qu⟩) 1 1] (W.alloc (rj #[Z U i.a] 3)) λe w'=>e= rk (Z U (dB g.vs [i.a]))/\aq N w w'):=by
       intro W hW hB;have tM:aq N w (W.alloc (rj #[Z U i.a] 3)):=hB.alloc (by have:=hW.lt;omega) _;have hj:=rv.out.j.below (by rw[y.out];exact tM);refine(bU m g (qt ⟨W.heap.size,0,qu⟩) [i.a] 1 (W.alloc (rj #[Z U i.a] 3)) hj.vars hj.nv hj.vl (by unfold dl;simp) wP (by simp;exact te.out)).mono ?_;rintro e w' ⟨rfl,hb⟩;exact⟨rfl,tM.trans (hb.mono (by have:=hW.lt;simp;omega))⟩
      go_wp2_with (first
       |(refine bo rfl 184 _ rfl N rfl 184 (jg m g) (0,0) _ ((rm.out _ (an _ _)).1) cq rfl (by kernel_rfl) ?_)
       |(go_at_call 186;refine(tG.out _ _ rm.out rr.out).mono ?_;clear rm rr;rintro e u ⟨rfl,A,sr⟩;have ux:=A.lt;obtain⟨y0,y1,y2,y3,y4,y5,y6,y7,y8,y9⟩:=iI.of (A u (an _ _)).1;have tE:u.cell? ⟨N+1,10,qu⟩=qt (Z U i.els):=bh _ _ _ _ _ _ (A u (an _ _)).2;have z2:u.cell? ⟨N+1,2,qu⟩=qt (Z U i.a):=bh _ _ _ _ _ _ (A u (an _ _)).2;have rm:=zH A;have rr:=zH sr;clear A sr)
       |(go_at_call 187;refine(va.out _ rm.out rr.out).mono ?_;rintro e w9 ⟨rfl,tP⟩;have vc:=zH tP;clear tP))
      go_ret;rw[o.out,y.out];exact⟨rfl,vc.out⟩
   have wj:(i.op==17)=qS:=by rw[cR];exact rK
   by_cases rL:i.op=18
   ·have o:ca (R=bv (ak g.vs i.a==g.ret) 7):=by unfold ca;rw[G.out];unfold dx;rw[cw K,cw rI,cw rK,cI rL]
    have te:ca (isVar g.vs.length i.a=qv):=rx.out _ (by rw[HL.out];exact nC (by rw[rL];rfl));rw[rL] at z0;obtain⟨⟨ba,sa⟩,tf⟩:∃t,ak g.vs i.a=t:=⟨_,rfl⟩
    obtain⟨d,th⟩:=zE (((ba,sa):Ty)==(g.c.rp,g.c.rto));have wk:∀w,(fS 10000 32 (rh #[re ba,qT sa]) (rh #[re g.c.rp,qT g.c.rto])).run ac w= .ok d w:=λw=>by rw[cB,th]
    have vd:ca (R=bv d 7):=by unfold ca;rw[o.out,tf,<-th];rfl
    have vf:ca (∀p:BW f,zP 188 #[rh #[ra m.sA m.ss.length m.sC,ra m.fA m.fs.length m.fC,qT g.c.nm,Z U g.c.par,ra g.c.varsA g.c.nvars g.c.varsC,re g.c.rp,qT g.c.rto,Z U g.c.rcl,ra g.c.fromA g.c.nfrom g.c.fromC,ra g.c.insA g.c.ins.length g.c.insC],Z U i.a] p.w (rh #[re ba,qT sa])):=λp=>by
     have:=fJ m g i.a p.w (sq.out.below p.h).vars sq.out.nv sq.out.vl te.out;rw[tf] at this;exact this
    have rl:ca (∀p:BW f,iI p.w N m g):=λp=>iI.of (sn.out p.w p.h).1;have k0:∀p:BW f,p.w.cell? ⟨N,0,qu⟩=qt (ra m.sA m.ss.length m.sC):=λp=>(rl.out p).1;have k1:∀p:BW f,p.w.cell? ⟨N,1,qu⟩=qt (ra m.fA m.fs.length m.fC):=λp=>(rl.out p).2.1;have k2:∀p:BW f,p.w.cell? ⟨N,2,qu⟩=qt (qT g.c.nm):=λp=>(rl.out p).2.2.1;have k3:∀p:BW f,p.w.cell? ⟨N,3,qu⟩=qt (Z U g.c.par):=λp=>(rl.out p).2.2.2.1;have k4:∀p:BW f,p.w.cell? ⟨N,4,qu⟩=qt (ra g.c.varsA g.c.nvars g.c.varsC):=λp=>(rl.out p).2.2.2.2.1;have k5:∀p:BW f,p.w.cell? ⟨N,5,qu⟩=qt (re g.c.rp):=λp=>(rl.out p).2.2.2.2.2.1;have k6:∀p:BW f,p.w.cell? ⟨N,6,qu⟩=qt (qT g.c.rto):=λp=>(rl.out p).2.2.2.2.2.2.1;have k7:∀p:BW f,p.w.cell? ⟨N,7,qu⟩=qt (Z U g.c.rcl):=λp=>(rl.out p).2.2.2.2.2.2.2.1;have k8:∀p:BW f,p.w.cell? ⟨N,8,qu⟩=qt (ra g.c.fromA g.c.nfrom g.c.fromC):=λp=>(rl.out p).2.2.2.2.2.2.2.2.1;have k9:∀p:BW f,p.w.cell? ⟨N,9,qu⟩=qt (ra g.c.insA g.c.ins.length g.c.insC):=λp=>(rl.out p).2.2.2.2.2.2.2.2.2;have wl:∀p:BW f,p.w.cell? ⟨N+1,2,qu⟩=qt (Z U i.a):=λp=>by rw[bh _ _ _ _ _ _ (sn.out p.w p.h).2];rfl
    clear G tf th o;go_wp2;refine zQ ?_
    repeat (go_big_quiet_step (first
     |(go_at_call 188;exact aV (vf.out _))
     |(go_at_call 99;exact iL (ay _ _ _))))
    refine db ?_;rintro _ ⟨p,rfl⟩;go_wp2;go_ret;rw[vd.out,y.out];exact⟨rfl,rn.out.trans (p.h.mono (by omega))⟩
   have wn:(i.op==18)=qS:=by rw[cR];exact rL
   have o:ca (R=aj m g.vs i):=by unfold ca;rw[G.out];unfold dx;rw[cw K,cw rI,cw rK,cw rL]
   have vh:ca (zP 189 #[rh (jg m g),rh i.cells] f (Z U (aj m g.vs i))):=
    nZ m g i f (by have:=vm.out;omega) ⟨sq.out,λh=>rx.out _ (by rw[HL.out];exact zz h),λh=>rx.out _ (by rw[HL.out];exact nC h),λh=>rx.out _ (by rw[HL.out];exact BP h),rv.out.kn⟩
   clear G K rI rK rL
   go_wp2_with (first
    |(refine bo rfl 184 _ rfl N rfl 184 (jg m g) (0,0) _ (J.out.1) cq rfl (by kernel_rfl) ?_)
    |(refine bo rfl 42 _ rfl (N+1) rfl 42 i.cells (0,0) _ (J.out.2) cr rfl (by kernel_rfl) ?_)
    |(go_at_call 189;refine vh.out.mono ?_;rintro e u ⟨rfl,D⟩;have rB:=zH D;clear D))
   go_ret;rw[o.out,y.out];exact⟨rfl,rn.out.trans (rB.out.mono (by omega))⟩
 |false=>
  have e1:(aS i).1=0:=by unfold aS;rw[hd];rfl
  have e2:(aS i).2=qS:=by unfold aS;rw[hd];rfl
  rw[e1,e2] at tj;clear e1 e2
  go_upto_region 7 with(first
   |(go_at_call 183;refine(jC _ _).mono ?_;rintro e w2 ⟨rfl,sx⟩;have rS:=zH (tS.out.next sx);have sy:ca (aq N w w2):=ub.out.trans (sx.mono (by omega));clear sx)
   |(refine bo rfl 42 _ rfl (N+1) rfl 42 i.cells (0,0) _ ((rS.out _ (an _ _)).2) cr rfl (by kernel_rfl) ?_)
   |(refine bo rfl 42 _ rfl (N+1) rfl 42 i.cells (0,0) _ ((sB.out _ (an _ _)).2) cr rfl (by kernel_rfl) ?_)
   |(go_at_call 144;refine(tp.out _ (by rw[y.out];exact sy.out)).mono ?_;rintro e w3 ⟨tr,tt,rfl,tv,sE⟩;have tz:=zH tv;have sB:=zH (rS.out.next sE);have tA:ca (aq N w w3):=sy.out.trans (sE.mono (by have:=rS.out.lt;omega));have vu:=sE.size;clear sE tv)
   |(go_at_call 142;refine(tj.out _).mono ?_;rintro e w5 ⟨rfl,se⟩;have sX:=zH (sB.out.next se);have tm:=zH (ownsRow_below tz.out se);have sT:ca (aq N w w5):=tA.out.trans (se.mono (by have:=sB.out.lt;omega));have vx:=se.size;clear se))
  have HL:ca (rs=readsOf i++(if ou i.op then[i.d] else[])):=by unfold ca;rw[hd,tU.out];simp
  have sL:ca (zP 184 #[rh (jg m g),ra tr rs.length tt] w5 (re (aG g.vs.length rs))):=
   nY m g tr rs tt w5 rv.out.j.nv (by have:=tl.out;unfold dl;omega) (aZ.at_ tm.out)
  rw[<-HL.out] at rN;have wb:=zH hd;have vy:=rS.out.lt;have wa:w2.heap.size<=w5.heap.size:=by omega
  clear tz tm rS sB tS sy tA tp tj tl tU uc i0 hd;have sY:=zH (sX.out w5 (an _ _));obtain⟨tb,sR⟩:=zE (aG g.vs.length rs);rw[sR] at sL;rw[sR] at rN;have tD:=zH sR;clear sR;cases tb with
  |false=>
   have o:ca (R=15):=rN.out
   go_wp2_with (first
    |(refine bo rfl 184 _ rfl N rfl 184 (jg m g) (0,0) _ (sY.out.1) cq rfl (by kernel_rfl) ?_)
    |(go_at_call 184;refine sL.out.mono ?_;rintro e f ⟨rfl,sf⟩;have sk:=zH sf;clear sf))
   go_ret;rw[o.out,y.out];exact⟨rfl,sT.out.trans (sk.out.mono (by omega))⟩
  |true=>
   have G:ca (R=dx m g i):=rN.out;clear rN
   go_upto_region 9 with(first
    |(refine bo rfl 184 _ rfl N rfl 184 (jg m g) (0,0) _ (sY.out.1) cq rfl (by kernel_rfl) ?_)
    |(go_at_call 184;refine sL.out.mono ?_;rintro e f ⟨rfl,sf⟩;have sk:=zH sf;clear sf))
   have sn:ca (iw f N m g i):=sX.out.next sk.out
   have rn:ca (aq N w f):=sT.out.trans (sk.out.mono (by omega));have we:=sn.out.lt;have J:=zH (sn.out f (an _ _));have sq:ca (mr f m g):=rv.out.j.below (by rw[y.out];exact rn.out);have z0:=zR J.out.2 0 (Z U i.op);have z2:=zR J.out.2 2 (Z U i.a);have z9:=zR J.out.2 9 (Z U i.tI);have tE:=zR J.out.2 10 (Z U i.els);have rx:ca (∀v∈rs,isVar g.vs.length v=qv):=λv hv=>sV tD.out hv;clear sX sL sk sT sY tD
   by_cases K:i.op=15
   ·have o:ca (R=gD m g.vs i):=by unfold ca;rw[G.out];exact cI K
    have ue:ca (zP 185 #[rh (jg m g),rh i.cells] f (Z U (gD m g.vs i))):=
     pK m g i f sq.out (rv.out.ar.below (by rw[y.out];exact rn.out)) (by have:=rv.out.al;unfold dl;omega) (rx.out _ (by rw[HL.out];exact zz (by rw[K];rfl))) (λa ha=>rx.out a (by rw[HL.out];exact sW K ha))
    rw[K] at z0;clear G
    go_wp2_with (first
     |(refine bo rfl 184 _ rfl N rfl 184 (jg m g) (0,0) _ (J.out.1) cq rfl (by kernel_rfl) ?_)
     |(refine bo rfl 42 _ rfl (N+1) rfl 42 i.cells (0,0) _ (J.out.2) cr rfl (by kernel_rfl) ?_)
     |(go_at_call 185;refine ue.out.mono ?_;rintro e u ⟨rfl,D⟩;have rB:=zH D;clear D))
    go_ret;rw[o.out,y.out];exact⟨rfl,rn.out.trans (rB.out.mono (by omega))⟩
   have wg:(i.op==15)=qS:=by rw[cR];exact K
   by_cases rI:i.op=16
   ·have o:ca (R=bv (isVar g.c.ins.length i.tI) 15):=by unfold ca;rw[G.out];unfold dx;rw[cw K,cI rI]
    rw[rI] at z0;clear G
    go_wp2_with (first
     |(refine bo rfl 184 _ rfl N rfl 184 (jg m g) (0,0) _ (J.out.1) cq rfl (by kernel_rfl) ?_)
     |(go_at_call 186;refine(fK m g i.tI f).mono ?_;rintro e u ⟨rfl,D⟩;have rB:=zH D;clear D)
     |(go_at_call 99;refine(ay _ _ _).mono ?_;rintro e w8 ⟨rfl,rfl⟩))
    go_ret;rw[o.out,y.out];exact⟨rfl,rn.out.trans (rB.out.mono (by omega))⟩
   have wi:(i.op==16)=qS:=by rw[cR];exact rI
   by_cases rK:i.op=17
   ·have o:ca (R=if isVar g.c.ins.length i.tI&&isVar g.c.ins.length i.els then dB g.vs [i.a] else 15):=by unfold ca;rw[G.out];unfold dx;rw[cw K,cw rI,cI rK]
    have te:ca (isVar g.vs.length i.a=qv):=rx.out _ (by rw[HL.out];exact nC (by rw[rK];rfl));rw[rK] at z0;obtain⟨t1,ur⟩:=zE (isVar g.c.ins.length i.tI);obtain⟨t2,uv⟩:=zE (isVar g.c.ins.length i.els);rw[ur,uv] at o;clear G;cases t1 with
    |false=>
     go_wp2_with (first
      |(refine bo rfl 184 _ rfl N rfl 184 (jg m g) (0,0) _ (J.out.1) cq rfl (by kernel_rfl) ?_)
      |(go_at_call 186;refine(fK m g _ _).mono ?_;rintro e u ⟨rfl,D⟩;have rB:=zH D;clear D))
     go_ret;rw[o.out,y.out];exact⟨rfl,rn.out.trans (rB.out.mono (by omega))⟩
    |true=>
     have tG:ca (∀(W:World)(v:cj),iw W N m g i->aq N w W->ft ac 186 #[rh (jg m g),Z U v] W λe w'=>e= rk (re (isVar g.c.ins.length v))/\iw w' N m g i/\aq N w w'):=λW v hW hB=>(fK m g v W).mono (by
      rintro e w' ⟨rfl,hb⟩;exact⟨rfl,hW.next hb,hB.trans (hb.mono (by have:=hW.lt;omega))⟩)
     have rm:=sn;have rr:=rn;cases t2 with
     |false=>
      go_wp2_with (first
       |(refine bo rfl 184 _ rfl N rfl 184 (jg m g) (0,0) _ ((rm.out _ (an _ _)).1) cq rfl (by kernel_rfl) ?_)
       |(go_at_call 186;refine(tG.out _ _ rm.out rr.out).mono ?_;clear rm rr;rintro e u ⟨rfl,A,sr⟩;have ux:=A.lt;obtain⟨y0,y1,y2,y3,y4,y5,y6,y7,y8,y9⟩:=iI.of (A u (an _ _)).1;have tE:u.cell? ⟨N+1,10,qu⟩=qt (Z U i.els):=bh _ _ _ _ _ _ (A u (an _ _)).2;have rm:=zH A;have rr:=zH sr;clear A sr))
      go_ret;rw[o.out,y.out];exact⟨rfl,rr.out⟩
     |true=>
      have va:ca (∀(W:World),iw W N m g i->aq N w W->ft ac 187 #[rh (jg m g),ra (qt ⟨W.heap.size,0,qu⟩) 1 1] (W.alloc (rj #[Z U i.a] 3)) λe w'=>e= rk (Z U (dB g.vs [i.a]))/\aq N w w'):=by
       intro W hW hB;have tM:aq N w (W.alloc (rj #[Z U i.a] 3)):=hB.alloc (by have:=hW.lt;omega) _;have hj:=rv.out.j.below (by rw[y.out];exact tM);refine(bU m g (qt ⟨W.heap.size,0,qu⟩) [i.a] 1 (W.alloc (rj #[Z U i.a] 3)) hj.vars hj.nv hj.vl (by unfold dl;simp) wP (by simp;exact te.out)).mono ?_;rintro e w' ⟨rfl,hb⟩;exact⟨rfl,tM.trans (hb.mono (by have:=hW.lt;simp;omega))⟩
      go_wp2_with (first
       |(refine bo rfl 184 _ rfl N rfl 184 (jg m g) (0,0) _ ((rm.out _ (an _ _)).1) cq rfl (by kernel_rfl) ?_)
       |(go_at_call 186;refine(tG.out _ _ rm.out rr.out).mono ?_;clear rm rr;rintro e u ⟨rfl,A,sr⟩;have ux:=A.lt;obtain⟨y0,y1,y2,y3,y4,y5,y6,y7,y8,y9⟩:=iI.of (A u (an _ _)).1;have tE:u.cell? ⟨N+1,10,qu⟩=qt (Z U i.els):=bh _ _ _ _ _ _ (A u (an _ _)).2;have z2:u.cell? ⟨N+1,2,qu⟩=qt (Z U i.a):=bh _ _ _ _ _ _ (A u (an _ _)).2;have rm:=zH A;have rr:=zH sr;clear A sr)
       |(go_at_call 187;refine(va.out _ rm.out rr.out).mono ?_;rintro e w9 ⟨rfl,tP⟩;have vc:=zH tP;clear tP))
      go_ret;rw[o.out,y.out];exact⟨rfl,vc.out⟩
   have wj:(i.op==17)=qS:=by rw[cR];exact rK
   by_cases rL:i.op=18
   ·have o:ca (R=bv (ak g.vs i.a==g.ret) 7):=by unfold ca;rw[G.out];unfold dx;rw[cw K,cw rI,cw rK,cI rL]
    have te:ca (isVar g.vs.length i.a=qv):=rx.out _ (by rw[HL.out];exact nC (by rw[rL];rfl));rw[rL] at z0;obtain⟨⟨ba,sa⟩,tf⟩:∃t,ak g.vs i.a=t:=⟨_,rfl⟩
    obtain⟨d,th⟩:=zE (((ba,sa):Ty)==(g.c.rp,g.c.rto));have wk:∀w,(fS 10000 32 (rh #[re ba,qT sa]) (rh #[re g.c.rp,qT g.c.rto])).run ac w= .ok d w:=λw=>by rw[cB,th]
    have vd:ca (R=bv d 7):=by unfold ca;rw[o.out,tf,<-th];rfl
    have vf:ca (∀p:BW f,zP 188 #[rh #[ra m.sA m.ss.length m.sC,ra m.fA m.fs.length m.fC,qT g.c.nm,Z U g.c.par,ra g.c.varsA g.c.nvars g.c.varsC,re g.c.rp,qT g.c.rto,Z U g.c.rcl,ra g.c.fromA g.c.nfrom g.c.fromC,ra g.c.insA g.c.ins.length g.c.insC],Z U i.a] p.w (rh #[re ba,qT sa])):=λp=>by
     have:=fJ m g i.a p.w (sq.out.below p.h).vars sq.out.nv sq.out.vl te.out;rw[tf] at this;exact this
    have rl:ca (∀p:BW f,iI p.w N m g):=λp=>iI.of (sn.out p.w p.h).1;have k0:∀p:BW f,p.w.cell? ⟨N,0,qu⟩=qt (ra m.sA m.ss.length m.sC):=λp=>(rl.out p).1;have k1:∀p:BW f,p.w.cell? ⟨N,1,qu⟩=qt (ra m.fA m.fs.length m.fC):=λp=>(rl.out p).2.1;have k2:∀p:BW f,p.w.cell? ⟨N,2,qu⟩=qt (qT g.c.nm):=λp=>(rl.out p).2.2.1;have k3:∀p:BW f,p.w.cell? ⟨N,3,qu⟩=qt (Z U g.c.par):=λp=>(rl.out p).2.2.2.1;have k4:∀p:BW f,p.w.cell? ⟨N,4,qu⟩=qt (ra g.c.varsA g.c.nvars g.c.varsC):=λp=>(rl.out p).2.2.2.2.1;have k5:∀p:BW f,p.w.cell? ⟨N,5,qu⟩=qt (re g.c.rp):=λp=>(rl.out p).2.2.2.2.2.1;have k6:∀p:BW f,p.w.cell? ⟨N,6,qu⟩=qt (qT g.c.rto):=λp=>(rl.out p).2.2.2.2.2.2.1;have k7:∀p:BW f,p.w.cell? ⟨N,7,qu⟩=qt (Z U g.c.rcl):=λp=>(rl.out p).2.2.2.2.2.2.2.1;have k8:∀p:BW f,p.w.cell? ⟨N,8,qu⟩=qt (ra g.c.fromA g.c.nfrom g.c.fromC):=λp=>(rl.out p).2.2.2.2.2.2.2.2.1;have k9:∀p:BW f,p.w.cell? ⟨N,9,qu⟩=qt (ra g.c.insA g.c.ins.length g.c.insC):=λp=>(rl.out p).2.2.2.2.2.2.2.2.2;have wl:∀p:BW f,p.w.cell? ⟨N+1,2,qu⟩=qt (Z U i.a):=λp=>by rw[bh _ _ _ _ _ _ (sn.out p.w p.h).2];rfl
    clear G tf th o;go_wp2;refine zQ ?_
    repeat (go_big_quiet_step (first
     |(go_at_call 188;exact aV (vf.out _))
     |(go_at_call 99;exact iL (ay _ _ _))))
    refine db ?_;rintro _ ⟨p,rfl⟩;go_wp2;go_ret;rw[vd.out,y.out];exact⟨rfl,rn.out.trans (p.h.mono (by omega))⟩
   have wn:(i.op==18)=qS:=by rw[cR];exact rL
   have o:ca (R=aj m g.vs i):=by unfold ca;rw[G.out];unfold dx;rw[cw K,cw rI,cw rK,cw rL]
   have vh:ca (zP 189 #[rh (jg m g),rh i.cells] f (Z U (aj m g.vs i))):=
    nZ m g i f (by have:=vm.out;omega) ⟨sq.out,λh=>rx.out _ (by rw[HL.out];exact zz h),λh=>rx.out _ (by rw[HL.out];exact nC h),λh=>rx.out _ (by rw[HL.out];exact BP h),rv.out.kn⟩
   clear G K rI rK rL
   go_wp2_with (first
    |(refine bo rfl 184 _ rfl N rfl 184 (jg m g) (0,0) _ (J.out.1) cq rfl (by kernel_rfl) ?_)
    |(refine bo rfl 42 _ rfl (N+1) rfl 42 i.cells (0,0) _ (J.out.2) cr rfl (by kernel_rfl) ?_)
    |(go_at_call 189;refine vh.out.mono ?_;rintro e u ⟨rfl,D⟩;have rB:=zH D;clear D))
   go_ret;rw[o.out,y.out];exact⟨rfl,rn.out.trans (rB.out.mono (by omega))⟩
theorem jk {α:Type}{f:α->cj}:∀{l:bm α}{j:cd}{x:α},(∀y∈l.take j,f y=0)->l[j]?=qt x->f x≠0->aM f l=f x
 |[],j,x,_,h,_=>by simp at h
 |y::r,0,x,_,h,d=>by
  simp at h;subst h;unfold aM;rw[cw d]
 |y::r,j+1,x,o,h,d=>by
  unfold aM;rw[cI (o y (by simp))];exact jk (j:=j) (λz q=>o z (by simp[q])) (by simpa using h) d
theorem gF {α:Type}{f:α->cj}:∀{l:bm α},(∀y∈l,f y=0)->aM f l=0
 |[],_=>rfl
 |y::r,h=>by
  unfold aM;rw[cI (h y (by simp))];exact gF λz d=>h z (by simp[d])
theorem rR {i:Ins}(h:i.ok):(i.cells.all λx=>x.oneCell')=qv:=by
 obtain⟨⟨o,cap,d⟩,q,n2,u,f⟩:=h;rw[<-iv];simp[Ins.cells,br,d,f]
structure DR (w:World)(m:Mo)(g:Fn):Prop where
 mo:m.inn w
 fn:g.inn w
 al:∀i∈g.c.ins,i.args.length<=40
 kn:∀v,isVar g.vs.length v=qv->m.known (ak g.vs v)=qv
theorem yw (m:Mo)(g:Fn)(w:World)(h:DR w m g):
  zP 97 #[rh (jg m g)] w (Z U (codeF m g)):=by
 have sB:ca (∀i∈g.c.ins,∀W,aq w.heap.size w W->zP 136 #[rh (jg m g),rh i.cells] W (Z U (aC m g i))):=λi d W hW=>
  wR m g i W ⟨(yt h.mo h.fn).below hW,(h.fn.code.args i d).below hW,h.al i d,h.kn⟩
 have sk:=zH h.fn.code.row;have sE:ca (∀i∈g.c.ins,i.ok):=λi d=>(h.fn.code.args i d).1;have sn:=h.fn.nvars;have sL:=(yt h.mo h.fn).vl;unfold dl at sL;obtain⟨R,hR⟩:=zE (codeF m g);have q:ca (R=if 300<g.vs.length\/g.c.ins.length<1\/3000<g.c.ins.length then 2
  else if g.c.par<0\/(g.vs.length:cj)<g.c.par then 15
  else if aM (aC m g) g.c.ins≠0 then aM (aC m g) g.c.ins
  else bv (match g.c.ins.getLast? with
   |some i=>decide (16<=i.op)
   |none=>qS) 15):=hR.symm
 rw[hR];clear h hR;obtain⟨N,hN⟩:=zE w.heap.size;obtain⟨v,rx⟩:=zE (w.alloc (rj (jg m g) 184));have sq:=gQ rx hN;have sR:v.heap.size=N+1:=by rw[<-rx];simp[hN]
 have K:v.heap[N]?=qt (rj (jg m g) 184 (0,0)):=by rw[<-rx,<-hN];exact alloc_at _ _
 have q3:=zR K 3 (Z U g.c.par);have q4:v.cell? ⟨N,4,qu⟩=qt (ra g.c.varsA g.vs.length g.c.varsC):=by rw[bh _ _ _ _ _ _ K,<-sn];rfl
 have q9:=zR K 9 (ra g.c.insA g.c.ins.length g.c.insC);have D:=zH sq;have A:=zH hN;have sT:=zH K;have tf:=zH sR;have sX:N<v.heap.size:=by omega
 clear sq K sn
 by_cases c1:300<g.vs.length
 ·have o:ca (R=2):=by unfold ca;rw[q.out,cI (.inl c1)]
  clear q;go_enter mx,lr;go_wp2;go_ret;rw[o.out]
  try rw[A.out]
  exact⟨rfl,D.out⟩
 by_cases c2:g.c.ins.length<1
 ·have o:ca (R=2):=by unfold ca;rw[q.out,cI (.inr (.inl c2))]
  clear q;go_enter mx,lr;go_wp2;go_ret;rw[o.out]
  try rw[A.out]
  exact⟨rfl,D.out⟩
 by_cases c3:3000<g.c.ins.length
 ·have o:ca (R=2):=by unfold ca;rw[q.out,cI (.inr (.inr c3))]
  clear q;go_enter mx,lr;go_wp2;go_ret;rw[o.out]
  try rw[A.out]
  exact⟨rfl,D.out⟩
 by_cases c4:g.c.par<0
 ·have o:ca (R=15):=by unfold ca;rw[q.out,cw (by omega),cI (.inl c4)]
  clear q;go_enter mx,lr;go_wp2;go_ret;rw[o.out]
  try rw[A.out]
  exact⟨rfl,D.out⟩
 by_cases c5:(g.vs.length:cj)<g.c.par
 ·have o:ca (R=15):=by unfold ca;rw[q.out,cw (by omega),cI (.inr c5)]
  clear q;go_enter mx,lr;go_wp2;go_ret;rw[o.out]
  try rw[A.out]
  exact⟨rfl,D.out⟩
 have rB:ca (R=if aM (aC m g) g.c.ins≠0 then aM (aC m g) g.c.ins
  else bv (match g.c.ins.getLast? with
   |some i=>decide (16<=i.op)
   |none=>qS) 15):=by unfold ca;rw[q.out,cw (by omega),cw (by omega)]
 clear q;go_enter mx,lr
 go_upto_region 8 with(refine bo rfl 184 _ rfl N rfl 184 (jg m g) (0,0) _ sT.out cq rfl (by kernel_rfl) ?_)
 go_loopw [47] (λc wr=>∃j:cd,j<=g.c.ins.length/\c= Z U (j:cj)/\(∀x∈g.c.ins.take j,aC m g x=0)/\aq v.heap.size v wr) (λc _=>g.c.ins.length-(intOf c).toNat)
 case atStart=>exact⟨0,cJ _,rfl,by simp,an _ _⟩
 case round=>
  obtain⟨j,hj,rfl,hz,G⟩:=hrel;have HB:=zH G;have HZ:=zH hz;have rn:ca (aq N w wr):=D.out.trans (G.mono (by omega))
  by_cases rI:j<g.c.ins.length
  ·obtain⟨i,d⟩:∃i,g.c.ins[j]?=qt i:=⟨_,am rI⟩
   have rK:=ce d;obtain⟨y,J,hA,sr,rl⟩:=sk.out (by intro e;rw[e] at rI;simp at rI);have rL:y<N:=by omega
   have sx:ca (∀k u,i.cells.toList[k]?=qt u->wr.cell? ((⟨y,J+j*13,qu⟩:oA).add k)=qt u):=λk u hu=>by
    rw[cM,rn.out.cell (p:=⟨y,_,qu⟩) rL];exact rl j i d k u hu
   have hst:∀(c:cG bw),c.size=13->(cU ⟨wr.heap.size,0,qu⟩ i.cells.toList 0).run ac (wr.alloc (rj c 42))= .ok () (wr.alloc (rj i.cells 42)):=λc hc=>
    cf (P:=ac) wr 42 c i.cells (by show _=qt 13;kernel_rfl) hc (rR (sE.out i rK))
   have sy:ca ((wr.alloc (rj i.cells 42)).heap[wr.heap.size]?=qt (rj i.cells 42 (0,0))):=alloc_at _ _;have sY:ca (aq N w (wr.alloc (rj i.cells 42))):=rn.out.alloc (by have:=HB.out.size;omega) _;have rr:ca (aq v.heap.size v (wr.alloc (rj i.cells 42))):=HB.out.alloc HB.out.size _;have rN:ca (zP 136 #[rh (jg m g),rh i.cells] (wr.alloc (rj i.cells 42)) (Z U (aC m g i))):=sB.out i rK _ (by rw[A.out];exact sY.out);have th:(j:cj)<(g.c.ins.length:cj):=by omega
   have HI:=zH d;obtain⟨z,rS⟩:=zE (aC m g i);rw[rS] at rN;have se:=zH rS;rw[hA];clear hz G d rK sr rl rS
   by_cases rv:z=0
   ·subst rv
    go_wp2_with (first
     |(refine az rfl 42 _ rfl ⟨y,J+j*13,qu⟩ rfl i.cells _ sx.out cr rfl (by kernel_rfl) ?_)
     |(refine bo rfl 42 _ rfl wr.heap.size rfl 42 i.cells (0,0) _ sy.out cr rfl (by kernel_rfl) ?_)
     |(go_at_call 136;refine rN.out.mono ?_;rintro e w3 ⟨rfl,rm⟩;have sf:ca (aq v.heap.size v w3):=rr.out.trans (rm.mono rr.out.size);clear rm))
    go_roundw
    case rel=>exact⟨j+1,by omega,by go_num,bY (p:=λx=>aC m g x=0) HZ.out HI.out se.out,sf.out⟩
    case measure=>simp[intOf];omega
   ·have o:ca (R=z):=by
     unfold ca;have e:=jk (f:=aC m g) HZ.out HI.out (by rw[se.out];exact rv);rw[rB.out,e,se.out,cI rv]
    have ti:(z==0)=qS:=by rw[cR];exact rv
    go_wp2_with (first
     |(refine az rfl 42 _ rfl ⟨y,J+j*13,qu⟩ rfl i.cells _ sx.out cr rfl (by kernel_rfl) ?_)
     |(refine bo rfl 42 _ rfl wr.heap.size rfl 42 i.cells (0,0) _ sy.out cr rfl (by kernel_rfl) ?_)
     |(go_at_call 136;refine rN.out.mono ?_;rintro e w3 ⟨rfl,rm⟩;have sf:ca (aq v.heap.size v w3):=rr.out.trans (rm.mono rr.out.size);clear rm))
    go_ret;rw[o.out]
    try rw[A.out]
    exact⟨rfl,D.out.trans (sf.out.mono (by omega))⟩
  ·have te:j=g.c.ins.length:=by omega
   subst te;rw[cT] at hz;obtain⟨i,d⟩:∃i,g.c.ins[g.c.ins.length-1]?=qt i:=⟨_,am (by omega)⟩
   have o:ca (R=bv (decide (16<=i.op)) 15):=by
    unfold ca;rw[rB.out,gF hz,cw (by simp),List.getLast?_eq_getElem?,d]
   obtain⟨y,J,hA,sr,rl⟩:=sk.out (by intro e;rw[e] at d;simp at d);have rL:y<N:=by omega
   obtain⟨L,hL⟩:∃L,g.c.ins.length=L+1:=⟨g.c.ins.length-1,by omega⟩
   have hd:wr.cell? ⟨y,J+L*13,qu⟩=qt (Z U i.op):=by
    rw[rn.out.cell (p:=⟨y,_,qu⟩) rL];rw[hL,Nat.add_sub_cancel] at d;exact rl L i d 0 _ rfl
   have tj:wr.cell? ⟨N,9,qu⟩=qt (ra (qt ⟨y,J,qu⟩) (L+1) g.c.insC):=by rw[G.cell (p:=⟨N,9,qu⟩) sX,<-hA,<-hL];exact q9
   have tl:y<wr.heap.size:=by have:=G.size;omega
   have tm:N<wr.heap.size:=by have:=G.size;omega
   have tn:((L+1:cd):cj)-1=(L:cj):=by omega
   have tp:L<=3000:=by omega
   clear hz G d rB rl q9;rw[hL]
   go_wp2_with (go_at_call 99;refine(ay _ _ _).mono ?_;rintro e w8 ⟨rfl,rfl⟩)
   go_ret;rw[o.out]
   try rw[A.out]
   exact⟨rfl,rn.out⟩
section
open Go.RowKit Go.Maps
theorem og:Keyed ac 9:=string_keyed fY
theorem Ap (w:World):(zeroValue 4).run ac w= .ok (re qS) w:=by kernel_rfl
theorem oz {P:i8}{e:ge}(d:P.underlying e=qt .bool){v:bw}{z:DataW Unit×bm ml}(h:kq P e v=qt z):∃x,v= .bool x/\z=(.lit (.bool x),[]):=by
 unfold kq at h;rw[d] at h;cases v<;>simp at h;exact⟨_,rfl,h.symm⟩
def oC (w:World)(B n:cd)(S:bm aw):Prop:=∃D:DataW Unit,w.ownsMap ac 9 (kq ac 4) B n D/\IsMap D/\
 ∀x:aw,D.atKey (.string x.data.toList) (.lit (.bool qS))= .lit (.bool (decide (x∈S)))
theorem oC.made (w:World):oC (w.alloc (.map #[] 0)) w.heap.size 0 []:=
 ⟨.map [],World.ownsMap_made _ _ _ _,isMap_empty,λx=>by simp[DataW.atKey]⟩
theorem oC.lt {w:World}{B n:cd}{S:bm aw}(h:oC w B n S):B<w.heap.size:=by
 obtain⟨D,d,f⟩:=h;exact d.lt
theorem oC.look {w:World}{B n:cd}{S:bm aw}(h:oC w B n S){x:aw}(f:x.size<=dl):
  (fk 283 (.map (qt B)) (.string x) qS).run ac w= .ok (.bool (decide (x∈S))) w:=by
 obtain⟨D,o,G,q⟩:=h;obtain⟨v,J,u,A⟩:=o.lookup og underlying283 (Ap w) (oS fX qS) (pS fY f);obtain⟨y,rfl,d⟩:=oz fX A;rw[q x] at d;simp only[lz,DataW.lit.injEq,Lit.bool.injEq] at d;rw[u,<-d.1]
theorem oC.add {w:World}{B n:cd}{S:bm aw}(h:oC w B n S){x:aw}(f:x.size<=dl)(o:n<dl):
  ∃w',(my 283 (.map (qt B)) (.string x) (.bool qv)).run ac w= .ok () w'/\oC w' B (n+1) (x::S)/\Ext (·=B) w w':=by
 obtain⟨D,q,d,u⟩:=h;obtain⟨w',v,A,G⟩:=q.update og underlying283 o (pS fY f) (oS fX qv);refine⟨w',v,⟨_,A,d.put _ _,λy=> ?_⟩,Ext.of_grown G (λk J=> .inl (by simpa using J.symm))⟩
 by_cases e:y=x
 ·subst e
  rw[atKey_put_same d (by simp[nx])];simp
 ·rw[atKey_put_other (DC e),u y];simp[e]
end
section
open Go.RowKit Go.Maps
theorem wS:(ac.info? 9).map (λi=>(i.zero,i.size,i.bytes))=qt (qt (qT ⟨#[]⟩),1,16):=by kernel_rfl
def eY (w:World)(base:cd)(v:bw)(xs:bm aw):Prop:=w.ownsRow base 9 1 v xs.length (xs.map em)
theorem eY.nil (w:World)(base:cd):eY w base (ra qu 0 0) []:=World.ownsRow_nil _ _ _ _
theorem eY.isSlice {w:World}{base:cd}{v:bw}{xs:bm aw}(h:eY w base v xs):∃f cap,v= ra f xs.length cap:=by
 rcases h.2 with⟨d,o⟩|⟨g,cap,cur,d,_⟩
 ·exact⟨qu,0,by rw[o];exact d⟩
 ·exact⟨_,_,d⟩
theorem eY.at_ {w:World}{base n cap:cd}{d:du oA}{xs:bm aw}(h:eY w base (ra d n cap) xs):aN w d xs:=by
 intro v;rcases h.2 with⟨f,o⟩|⟨g,D,cur,f,o,q,G,J,K,y⟩
 ·exact fL (cY o) v
 ·have A:d=qt ⟨g,0,qu⟩:=by simp only[fz] at f;exact f.1
  refine⟨g,0,A,(bb.1 q).1,λk z u=> ?_⟩;rw[cH,bh w g k cur _ _ q];have R:k<xs.length:=(bl.1 u).1;have e:(cur.toList.take (xs.length*1))[k]?=qt (qT z):=by rw[y];simp[u]
  rw[py,cI (by omega)] at e;simpa using e
theorem eY.below {w w':World}{base:cd}{v:bw}{xs:bm aw}(h:eY w base v xs)(d:aq w.heap.size w w'):eY w' base v xs:=ownsRow_below h d
theorem fF {w:World}{ops:cG ij}{rest:bm ij}{o:ij}{a:Act}{Q:Exit->Act->World->Prop}(D:o.guard=qu)(s x:Operand)
  (G:o.op= .call {callee:= .builtin .append,args:=#[s,x],argTypes:=#[223,223]})(base:cd)(v:bw)(xs:bm aw)(J:a.eval s=v)(K:eY w base v xs)
  (f:oA)(z:aw)(c:cd)(R:a.eval x= ra (qt f) 1 c)(rl:w.cell? f=qt (qT z))(rx:xs.length<=90000)(rm:base<=w.heap.size)
  (h:∀d w',eY w' base d (xs++[z])->w.grownBy w' v.ownBlock->wpList ac ops Q rest (a.put o.dst d) w'):wpList ac ops Q (o::rest) a w:=by
 obtain⟨i0,hi,rn,rr,rv⟩:=ld wS;have hh:∀d w',w'.ownsRow base 9 1 d (xs.length+1) (xs.map em++[qT z])->w.grownBy w' v.ownBlock->wpList ac ops Q rest (a.put o.dst d) w':=λd w' q y=>h d w' (by unfold eY;simpa using q) y;refine wpList_append_own _ D s x 223 G base 9 i0 (qT ⟨#[]⟩) 1 16 oe hi rn rr rv rfl (by decide) v xs.length _ J K f 1 c [qT z] R (by simp) (λj u A=> ?_) (by simp;rfl) (by unfold dl;omega) (by omega) rm (λd w' q y _=>hh d w' q y);have:j<1:=(bl.1 A).1;obtain rfl:j=0:=by omega
 simp at A;subst A;obtain⟨b,o,s⟩:=f;simpa[Addr.add] using rl
theorem yx {xs:bm aw}{j:cd}{y:aw}(h:(xs.take j).Nodup)(f:xs[j]?=qt y)(o:y∉xs.take j):(xs.take (j+1)).Nodup:=by
 rw[cZ f,iz];exact⟨h,by simp,by intro a q b d;simp at d;subst d;rintro rfl;exact o q⟩
theorem Aq {xs:bm aw}{j:cd}{y:aw}(f:xs[j]?=qt y)(o:y∈xs.take j):¬xs.Nodup:=by
 intro h;have d:(xs.take (j+1)).Nodup:=h.sublist (List.take_sublist _ _);rw[cZ f,iz] at d;exact d.2.2 y o y (by simp) rfl
theorem iX (w:World)(c:cd)(ao:du oA)(xs:bm aw)(hn:xs.length<=90000)(rr:∀x∈xs,x.size<=dl)(h:aN w ao xs):
  zP 133 #[ra ao xs.length c] w (re (decide (¬xs.Nodup))):=by
 have sy:=@run_makeMap ac;have H:=zH h;have rK:=zH rr;obtain⟨N,v⟩:=zE w.heap.size;obtain⟨W1,rv⟩:=zE (w.alloc (.map #[] 0));have rx:=gQ rv v;have rL:ca (oC W1 N 0 []):=by rw[<-rv,<-v];exact oC.made w
 have rN:=zH rx;have A:=zH v;obtain⟨R,D⟩:=zE (decide (¬xs.Nodup));rw[D];have HR:=zH D;clear h rr rx D;go_enter func133,ntmps133
 go_wp2_with fail
 go_loopw [9] (λc wr=>∃(j:cd) (S:bm aw),j<=xs.length/\c= Z U (j:cj)/\oC wr N j S/\(∀z,z∈S↔z∈xs.take j)/\(xs.take j).Nodup/\aq N w wr) (λc _=>xs.length-(intOf c).toNat)
 case atStart=>exact⟨0,[],cJ _,rfl,rL.out,by simp,by simp,rN.out⟩
 case round=>
  obtain⟨j,S,hj,rfl,f,G,o,q⟩:=hrel;have J:=zH q;have rS:=zH o;have K:=zH G
  by_cases rl:j<xs.length
  ·obtain⟨y,u⟩:∃y,xs[j]?=qt y:=⟨_,am rl⟩
   obtain⟨g1,se,rfl,sB,q1⟩:=(H.out.below (by rw[A.out];exact q)) (by intro e;rw[e] at rl;simp at rl)
   have d1:wr.cell? ⟨g1,se+j,qu⟩=qt (qT y):=q1 j y u;have rm:=rK.out y (ce u);have sE:(j:cj)<(xs.length:cj):=by omega
   have sf:=f.look rm;obtain⟨w2,sL,rB,rI⟩:=f.add rm (show j<dl by unfold dl;omega);obtain⟨d,hd⟩:=zE (decide (y∈S));rw[hd] at sf;have HD:=zH hd;have HY:=zH u;have sk:=zH rB;have sn:=zH rI;have sR:=f.lt;clear f G o q u q1 rm hd rB rI;cases d with
   |true=>
    have rn:ca (R=qv):=by
     unfold ca;rw[<-HR.out];exact dy (Aq HY.out ((K.out y).1 (nr HD.out)))
    go_wp2;go_ret;rw[rn.out]
    try rw[A.out]
    exact⟨rfl,J.out⟩
   |false=>
    go_wp2;go_roundw
    case rel=>
     have sq:y∉xs.take j:=λh=>of_decide_eq_false HD.out ((K.out y).2 h);refine⟨j+1,y::S,by omega,by go_num,sk.out,λz=> ?_,yx rS.out HY.out sq, ?_⟩
     ·rw[cZ HY.out,fW,cC,K.out z,cA,or_comm]
     ·have sr:Ext (N<=·) wr w2:=sn.out.mono (λk hk=>by show N<=k;omega)
      exact J.out.trans (sr.below (by omega) (λk hk=>hk))
    case measure=>simp[intOf];omega
  ·have sx:j=xs.length:=by omega
   subst sx;have rn:ca (R=qS):=by
    unfold ca;rw[cT] at o;rw[<-HR.out];exact cv (by simpa using o)
   clear f G o q;go_wp2;go_ret;rw[rn.out]
   try rw[A.out]
   exact⟨rfl,J.out⟩
end
end Go.Proofs.YtjomgckjhcfbgaaGreat
