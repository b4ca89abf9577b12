/- Walks. -/
import Derived.Test.YtjomgckjhcfbgaaGreatY3
set_option maxRecDepth 100000
set_option maxHeartbeats 64000000
set_option linter.all false
namespace Go.Proofs.YtjomgckjhcfbgaaGreat
open Go.RowKit
open Go.Proofs.Tryz renaming prog→ac,underlying88→ix,underlying40→m5,underlying113→ph
open _root_.List renaming getElem?_eq_getElem→am,getElem?_eq_some_iff→ap,mem_of_getElem?→cf,length_append→cw,take_length→de,flatMap_cons→el,mem_flatMap→em,getElem?_append_right→et,flatMap_append→eK,drop_eq_getElem_cons→eR,nil_append→fc,mem_cons→fy,length_cons→fS,getElem?_append_left→gR,any_eq_true→kq,length_take→pp,getElem?_take→pS,length_pos_iff→rx
open Go.RowKit.Below renaming refl→aq,heap_alloc→cn
open _root_ renaming ByteArray→aE,List→bm,Int→bp,Nat→bx,if_pos→cR,Array→da,Option→eA,congrArg→eM,absurd→fW,False→mb,Bool→nj,and_true→pc,beq_self_eq_true→rr
open Go.RowKit renaming Below→bh,Hid→cm
open Go renaming heap_setCell_same→bk,cell_of_row→cc,Value→cd,run_storeCells_new→ct,storeCells→dr,bodyPost_ret→dv,maxLen→dT,wpQuiet_nil→eh,results_cell_row→eI,Calls→gd,TypeId→gx,info_parts→gA,heap_alloc2_old→ia,heap_alloc2_new→lx
open _root_.Nat renaming lt_of_lt_of_le→bl,le_refl→ce,zero_le→cN,zero_add→cV,add_zero→mx,le_of_lt→pm,succ_mul→re,eq_zero_or_pos→rj,add_assoc→sB
open Go.Value renaming oneCell'→cj,string→tM,slice→tP,pointer→tR,bool→tU,agg→tW,int→Z
open _root_.Option.some renaming inj→cD,injEq→dt
open Go.Exit renaming inBlock→db
open Go.Addr renaming add_lit→dc
open Go.Addr.mk renaming injEq→eW
open _root_.Prod renaming fst→lE,snd→oA
open _root_.Option renaming some→tB,none→tD
open _root_.Bool renaming true→tE,false→tG
open Go.Obj renaming cells→ua
open Go.Ending renaming returned→ub
open Go.IntKind renaming i64→U
open Tryz
def Sm.plainK (s:Sm):Prop:=s.kind=1\/s.kind=3\/s.kind=8\/s.kind=9
def iE (s:Sm):nj:=s.kind==8
theorem xL (s:Sm)(J:s.plainK)(f:eA Addr)(n q:bx)(u:s.E= tP f n q)(w:World):
  zP 245 #[tW s.cells] w (tU (iE s)):=by
 obtain⟨W1,d⟩:=zE (w.alloc (ua #[Z U s.kind,tU s.ty.1,tM s.ty.2,tM s.nm,tP f n q,tP tD 0 0,tP tD 0 0,Z U s.ln,Z U s.cl] 282));have v:=iq d;have A:W1.heap[w.heap.size]?=tB (ua #[Z U s.kind,tU s.ty.1,tM s.ty.2,tM s.nm,tP f n q,tP tD 0 0,tP tD 0 0,Z U s.ln,Z U s.cl] 282 (0,0)):=by rw[<-d];exact alloc_at _ _
 obtain⟨⟨c0,c1,c2,c3,c4,c5,c6,c7,c8⟩,_,ud⟩:=fQ A;unfold Sm.cells;rw[u];have D:=zH d;have uc:=zH v;clear d v A u;rcases J with h|h|h|h<;>(
  have G:cm (iE s=(s.kind==8)):=rfl;rw[G.out];rw[h] at c0 D⊢;clear h G;go_enter func245,ntmps245
  go_upto_region 1 with(fail)
  rw[D.out];go_wp2;go_ret;exact⟨rfl,uc.out⟩)
theorem nA (b J cap:bx)(l:bm Sm)(hl:l.length<=1000000)(hk:∀s∈l,s.plainK/\∃ao n cp,s.E= tP ao n cp)(w:World)(hb:l≠[]->b<w.heap.size)(hc:∀(i:bx)(x:Sm),l[i]?=tB x->∀(k:bx)(u:cd),x.cells.toList[k]?=tB u->w.cell? ⟨b,J+i*9+k,tD⟩=tB u):
  zP 216 #[tP (tB ⟨b,J,tD⟩) l.length cap] w (tU (l.any iE)):=by
 have HK:=zH hk;have HB:=zH hb;have HC:=zH hc;clear hk hb hc;go_enter func216,ntmps216;go_wp2
 go_loopw [3] (λk wr=>∃j:bx,k= Z U (j:bp)/\j<=l.length/\(l.take j).any iE=tG/\bh w.heap.size w wr) (λk _=>l.length-(intOf k).toNat)
 case atStart=>exact⟨0,rfl,cN _,rfl,aq _ _⟩
 case round=>
  obtain⟨j,rfl,hj,f,uc⟩:=hrel;have HZ:=zH f;have v:=zH uc
  by_cases ud:j<l.length
  ·have vi:(j:bp)<(l.length:bp):=by omega
   obtain⟨x,A⟩:∃x,l[j]?=tB x:=⟨_,am ud⟩
   have vc:=HB.out (by intro e;rw[e] at ud;simp at ud);obtain⟨ur,ao,n,cp,hE⟩:=HK.out x (cf A);have d:∀(k:bx)(u:cd),x.cells.toList[k]?=tB u->wr.cell? ⟨b,J+j*9+k,tD⟩=tB u:=λk u hu=>(uc.cell (p:=⟨b,J+j*9+k,tD⟩) vc).trans (HC.out j x A k u hu);have k0:=d 0 _ rfl;have k1:=d 1 _ rfl;have k2:=d 2 _ rfl;have k3:=d 3 _ rfl;have k4:=d 4 _ rfl;have k5:=d 5 _ rfl;have k6:=d 6 _ rfl;have k7:=d 7 _ rfl;have k8:=d 8 _ rfl;rw[mx] at k0;rw[hE] at k4;have D:=xL x ur ao n cp hE wr;obtain⟨q,hq⟩:=zE (iE x);rw[hq] at D;unfold Sm.cells at D;rw[hE] at D;have uv:=zH D;have ux:(l.take (j+1)).any iE=q:=by rw[DY l iE A,f,hq];simp
   have vd:=zH ux;have va:q=tE->l.any iE=tE:=λh=>by rw[kq];exact⟨x,cf A,by rw[hq];exact h⟩
   have vf:=zH va;clear f uc A hE D hq d ux va ur;cases q with
   |true=>
    go_wp2_with (go_at_call 245;refine uv.out.mono ?_;rintro e w2 ⟨rfl,G⟩;have ue:=zH (v.out.trans (G.mono v.out.size));clear G)
    go_ret;rw[vf.out (by first|rfl|trivial)];exact⟨rfl,ue.out⟩
   |false=>
    go_wp2_with (go_at_call 245;refine uv.out.mono ?_;rintro e w2 ⟨rfl,G⟩;have ue:=zH (v.out.trans (G.mono v.out.size));clear G)
    go_roundw
    case rel=>exact⟨j+1,by go_num,ud,vd.out,ue.out⟩
    case measure=>simp[intOf];omega
  ·have vh:j=l.length:=by omega
   subst vh;rw[de] at f;have HE:cm (l.any iE=tG):=f;clear f uc;go_wp2;go_ret;rw[HE.out];exact⟨rfl,v.out⟩
def Ei (p:Pg)(S:bm Fd)(e:Ex)(y:Ty):Prop:=
 (e.kind=1/\y=bI)\/(e.kind=2/\∃d,kg S e.nm=tB d/\d.ty=y)\/(e.kind=7/\p.snm=e.nm/\y=(tE,e.nm))
theorem oC {c:bx}{p:Pg}{L:bx}{f0 f1 f2 f3 f4 f5 f6:cd}{sA:eA Addr}{sC:bx}{S:bm Fd}{e:Ex}{y:Ty}(w:World)(h:Ck c p L f0 f1 f2 f3 f4 f5 f6 sA sC S w)(q:Ei p S e y):
  gd ac 265 #[tR (tB ⟨c,0,tD⟩),tW e.cells] w λu w'=>u= ub (tW #[tU y.1,tM y.2])/\bh w.heap.size w w':=by
 unfold Ex.cells;rcases q with⟨d,rfl⟩|⟨d,v,f,rfl⟩|⟨d,f,rfl⟩
 ·rw[d];exact Bd e.n e.nm e.ln e.cl w h
 ·rw[d];exact Be e.n e.nm e.ln e.cl w h f
 ·rw[d];exact Bf e.n e.nm e.ln e.cl w h f
def CS (w:World)(g:bx)(e:Ex):Prop:=g<w.heap.size/\∀(j:bx)(u:cd),e.cells.toList[j]?=tB u->w.cell? ⟨g,j,tD⟩=tB u
theorem CS.grow {w w':World}{g:bx}{e:Ex}(h:CS w g e)(d:bh w.heap.size w w'):CS w' g e:=⟨bl h.1 d.size,λj u f=>by rw[d.cell (p:=⟨g,j,tD⟩) h.1];exact h.2 j u f⟩
theorem zf {c:bx}{p:Pg}{L:bx}{f0 f1 f4 f5 f6:cd}{y:Ty}{sA:eA Addr}{sC:bx}{S:bm Fd}{e:Ex}{g A:bx}(tb:nj)(ts nm:aE)(ln cl:bp)(w:World)(h:Ck c p L f0 f1 (tU y.1) (tM y.2) f4 f5 f6 sA sC S w)(hy:Ei p S e y)(hg:CS w g e):
  gd ac 268 #[tR (tB ⟨c,0,tD⟩),tW #[Z U 8,tU tb,tM ts,tM nm,tP (tB ⟨g,0,tD⟩) 1 A,tP tD 0 0,tP tD 0 0,Z U ln,Z U cl]] w λen w'=>en= ub (.tuple #[])/\bh w.heap.size w w':=by
 obtain⟨N,u⟩:=zE w.heap.size;obtain⟨W1,D⟩:=zE (w.alloc (ua #[Z U 8,tU tb,tM ts,tM nm,tP (tB ⟨g,0,tD⟩) 1 A,tP tD 0 0,tP tD 0 0,Z U ln,Z U cl] 282));have G:=iV D u;have J:W1.heap[N]?=tB (ua #[Z U 8,tU tb,tM ts,tM nm,tP (tB ⟨g,0,tD⟩) 1 A,tP tD 0 0,tP tD 0 0,Z U ln,Z U cl] 282 (0,0)):=by rw[<-D,<-u];exact alloc_at _ _
 have ux:=ae J;have h1:=h.grow (by rw[u];exact G);have d:=hg.grow (by rw[u];exact G);have ue:=oC W1 h1 hy;unfold Ex.cells at ue;have vf:=zH ue;have e0:=d.2 0 _ rfl;have e1:=d.2 1 _ rfl;have e2:=d.2 2 _ rfl;have e3:=d.2 3 _ rfl;have e4:=d.2 4 _ rfl;have e5:=d.2 5 _ rfl;have e6:=d.2 6 _ rfl;obtain⟨⟨a0,a1,a2,a3,a4,a5,a6,a7,a8⟩,_,vx⟩:=fQ J;have hst:∀(w:World)(c:da cd),c.size=2->(dr ⟨w.heap.size,0,tD⟩ [tU y.1,tM y.2] 0).run ac (w.alloc (ua c 32))= .ok () (w.alloc (ua #[tU y.1,tM y.2] 32)):=λw c hc=>
  ct (P:=ac) w 32 c #[tU y.1,tM y.2] (by show _=tB 2;kernel_rfl) hc (by simp[cj])
 have vh:=zH hst;have H1:=zH h1;have vi:=zH d;have vj:=zH D;have vm:=zH G;have vp:=zH J;have vy:=d.1;clear h hy hg D G J h1 d ue hst;go_enter func268,ntmps268
 go_upto_region 1 with(fail)
 rw[vj.out]
 go_upto_region 7 with(go_at_call 265;refine vf.out.mono ?_;rintro en w2 ⟨rfl,va⟩;have vq:=zH va;have vr:=vh.out w2;clear va)
 clear vr;obtain⟨T,hT⟩:=zE w2.heap.size;obtain⟨f,uc⟩:=zE (w2.alloc (ua #[tU y.1,tM y.2] 32));rw[hT,uc];have v:=zD uc vq;have ud:f.heap[T]?=tB (ua #[tU y.1,tM y.2] 32 (0,0)):=by rw[<-uc,<-hT];exact alloc_at _ _
 have vc:=ae ud;have h3:=H1.out.grow v;have ur:=vi.out.grow v;have uv:=(v.block N ux).trans vp.out;have t0:∀q:BW f,q.w.cell? ⟨T,0,tD⟩=tB (tU y.1):=λq=>(rowAt ((q.h.block T vc).trans ud) 0 rfl).1;have t1:∀q:BW f,q.w.cell? ⟨T,1,tD⟩=tB (tM y.2):=λq=>(rowAt ((q.h.block T vc).trans ud) 1 rfl).1;have c4:∀q:BW f,q.w.cell? ⟨c,4,tD⟩=tB (tU y.1):=λq=>(rowAt (h3.grow q.h).row 4 rfl).1;have c5:∀q:BW f,q.w.cell? ⟨c,5,tD⟩=tB (tM y.2):=λq=>(rowAt (h3.grow q.h).row 5 rfl).1;have x4:∀q:BW f,q.w.cell? ⟨N,4,tD⟩=tB (tP (tB ⟨g,0,tD⟩) 1 A):=λq=>(rowAt ((q.h.block N (ae uv)).trans uv) 4 rfl).1;have g5:∀q:BW f,q.w.cell? ⟨g,5,tD⟩=tB (Z U e.ln):=λq=>(ur.grow q.h).2 5 _ rfl;have g6:∀q:BW f,q.w.cell? ⟨g,6,tD⟩=tB (Z U e.cl):=λq=>(ur.grow q.h).2 6 _ rfl;have vu:cm (∀q:BW f,zP 176 #[tR (tB ⟨c,0,tD⟩),tU tE,Z U 7,tW #[Z U e.ln,Z U e.cl]] q.w (tU tE)):=λq=>bX 7 e.ln e.cl q.w (h3.grow q.h);have vd:=zH v;clear hT uc v ud h3 ur uv a0 a1 a2 a3 a4 a5 a6 a7 a8 e0 e1 e2 e3 e4 e5 e6;refine zQ ?_
 repeat (go_big_quiet_step (first
  |(go_at_call 266;exact aW (qE _ _ _))
  |(go_at_call 176;exact aW (vu.out _))))
 refine eh ?_;rintro _ ⟨q,rfl⟩;clear t0 t1 c4 c5 x4 g5 g6;go_wp2
 go_end0
 exact⟨rfl,by(try rw[u]);exact vm.out.trans ((vd.out.trans (q.h.mono vd.out.size)).mono (pm ux))⟩
theorem xM {c:bx}{p:Pg}{L:bx}{f0 f1 f2 f3 f4 f5 f6:cd}{sA:eA Addr}{sC:bx}{S:bm Fd}{d:Fd}(tb:nj)(ts nm:aE)(eo:eA Addr)(q ec:bx)(u v:bp)(w:World)(h:Ck c p L f0 f1 f2 f3 f4 f5 f6 sA sC S w)(hl:kg S nm=tB d)(hp:d.ty.1=tE):
  gd ac 268 #[tR (tB ⟨c,0,tD⟩),tW #[Z U 9,tU tb,tM ts,tM nm,tP eo q ec,tP tD 0 0,tP tD 0 0,Z U u,Z U v]] w λq w'=>q= ub (.tuple #[])/\bh w.heap.size w w':=by
 obtain⟨N,D⟩:=zE w.heap.size;obtain⟨A,G⟩:=zE (w.alloc (ua #[Z U 9,tU tb,tM ts,tM nm,tP eo q ec,tP tD 0 0,tP tD 0 0,Z U u,Z U v] 282));have ue:=iV G D;have J:A.heap[N]?=tB (ua #[Z U 9,tU tb,tM ts,tM nm,tP eo q ec,tP tD 0 0,tP tD 0 0,Z U u,Z U v] 282 (0,0)):=by rw[<-G,<-D];exact alloc_at _ _
 have vc:=ae J;have h1:=h.grow (by rw[D];exact ue);obtain⟨⟨a0,a1,a2,a3,a4,a5,a6,a7,a8⟩,_,wx⟩:=fQ J;have vm:cm (zP 214 #[tR (tB ⟨c,0,tD⟩),tM nm] A (.tuple #[tW #[tU tE,tM d.ty.2],tU tE])):=by
  have:=kK nm A h1;unfold pY at this;rw[hl] at this;rw[show Eh (tB d)=d.ty from rfl,hp] at this;exact this
 have vd:cm (∀f W,bh A.heap.size A W->zP 176 #[tR (tB ⟨c,0,tD⟩),tU tE,Z U f,tW #[Z U u,Z U v]] W (tU tE)):=λf W hW=>bX f u v W (h1.grow hW);have hst:∀(w:World)(c:da cd),c.size=2->(dr ⟨w.heap.size,0,tD⟩ [tU tE,tM d.ty.2] 0).run ac (w.alloc (ua c 32))= .ok () (w.alloc (ua #[tU tE,tM d.ty.2] 32)):=λw c hc=>
  ct (P:=ac) w 32 c #[tU tE,tM d.ty.2] (by show _=tB 2;kernel_rfl) hc (by simp[cj])
 have vp:=zH hst;have vq:=zH G;have vr:=zH ue;have vu:=zH J;clear h hl hp G ue J h1 hst;go_enter func268,ntmps268
 go_upto_region 1 with(fail)
 rw[vq.out]
 go_upto_region 10 with(go_at_call 214;refine vm.out.mono ?_;rintro q w2 ⟨rfl,vf⟩;have vx:=zH vf;have vy:=vp.out w2;clear vf)
 clear vy;obtain⟨T,hT⟩:=zE w2.heap.size;obtain⟨W3,uc⟩:=zE (w2.alloc (ua #[tU tE,tM d.ty.2] 32));rw[hT,uc];have ud:=zD uc vx;have ur:W3.heap[T]?=tB (ua #[tU tE,tM d.ty.2] 32 (0,0)):=by rw[<-uc,<-hT];exact alloc_at _ _
 have we:=ae ur;have uv:=(ud.block N vc).trans vu.out;obtain⟨⟨a0,a1,a2,a3,a4,a5,a6,a7,a8⟩,_,wg⟩:=fQ uv;have vh:=zH ud;have wi:=zH ur;have wj:=zH uv;have wk:=zH (vd.out 5 W3 ud);clear hT uc ud ur uv
 go_upto_region 11 with(go_at_call 176;refine wk.out.mono ?_;rintro q w4 ⟨rfl,ux⟩;have va:=zH (vh.out.trans (ux.mono vh.out.size));have vi:=zH ux;clear ux)
 obtain⟨⟨a0,a1,a2,a3,a4,a5,a6,a7,a8⟩,_,xf⟩:=fQ ((vi.out.block N wg).trans wj.out);obtain⟨⟨t0,t1⟩,_,xj⟩:=cB ((vi.out.block T we).trans wi.out);have wl:=zH (vd.out 7 w4 va.out)
 go_wp2_with (go_at_call 176;refine wl.out.mono ?_;rintro q w5 ⟨rfl,vj⟩;have ws:=zH (va.out.trans (vj.mono va.out.size));clear vj)
 go_end0
 exact⟨rfl,by(try rw[D]);exact vr.out.trans (ws.out.mono (pm vc))⟩
theorem oD {c:bx}{p:Pg}{L:bx}{f0 f1 f2 f3 f4 f5 f6:cd}{sA:eA Addr}{sC:bx}{S:bm Fd}(f:bp)(ux:f=8\/f=9)(u:nj)(ts nm:aE)(v:eA Addr)(d A:bx)(D G:bp)(w:World)(h:Ck c p L f0 f1 f2 f3 f4 f5 f6 sA sC S w)
  (ur:∀W,bh w.heap.size w W->gd ac 268 #[tR (tB ⟨c,0,tD⟩),tW #[Z U f,tU u,tM ts,tM nm,tP v d A,tP tD 0 0,tP tD 0 0,Z U D,Z U G]] W λd w'=>d= ub (.tuple #[])/\bh W.heap.size W w'):
  gd ac 244 #[tR (tB ⟨c,0,tD⟩),tW #[Z U f,tU u,tM ts,tM nm,tP v d A,tP tD 0 0,tP tD 0 0,Z U D,Z U G]] w λd w'=>d= ub (.tuple #[])/\bh w.heap.size w w':=by
 obtain⟨N,q⟩:=zE w.heap.size;obtain⟨J,uc⟩:=zE (w.alloc (ua #[Z U f,tU u,tM ts,tM nm,tP v d A,tP tD 0 0,tP tD 0 0,Z U D,Z U G] 282));have ud:=iV uc q;have ue:J.heap[N]?=tB (ua #[Z U f,tU u,tM ts,tM nm,tP v d A,tP tD 0 0,tP tD 0 0,Z U D,Z U G] 282 (0,0)):=by rw[<-uc,<-q];exact alloc_at _ _
 have va:=ae ue;have h1:=h.grow (by rw[q];exact ud);have vc:=zH (dF J h1);have vd:=zH (ur J (by rw[q];exact ud));obtain⟨⟨a0,a1,a2,a3,a4,a5,a6,a7,a8⟩,_,vj⟩:=fQ ue;have vf:=zH uc;have vh:=zH ud;clear h ur uc ud ue h1;rcases ux with rfl|rfl<;>(
  go_enter func244,ntmps244
  go_upto_region 1 with(fail)
  rw[vf.out]
  go_wp2_with (first
   |(go_at_call 178;refine vc.out.mono ?_;rintro e J ⟨rfl,rfl⟩)
   |(go_at_call 268;refine vd.out.mono ?_;rintro e w2 ⟨rfl,uv⟩;have vi:=zH uv;clear uv))
  go_end0
  exact⟨rfl,by(try rw[q]);exact vh.out.trans (vi.out.mono (pm va))⟩)
theorem rW {α:Type}{f:α->bm cd}{m:bx}(v:0<m)(d:∀x,(f x).length=m):∀(l:bm α)(j:bx)(u:cd),(l.flatMap f)[j]?=tB u->∃k q x,l[k]?=tB x/\(f x)[q]?=tB u/\j=k*m+q
 |[],j,u,h=>by simp at h
 |y::l,j,u,h=>by
  rw[el] at h
  by_cases A:j<m
  ·rw[gR (by rw[d];exact A)] at h
   exact⟨0,j,y,rfl,h,by omega⟩
  ·rw[et (by rw[d];omega),d] at h
   obtain⟨k,q,x,D,G,J⟩:=rW v d l (j-m) u h;exact⟨k+1,q,x,by simpa using D,G,by rw[re];omega⟩
theorem mP {α:Type}{f:α->bm cd}{m:bx}(d:∀x,(f x).length=m):∀l:bm α,(l.flatMap f).length=l.length*m
 |[]=>by simp
 |y::l=>by rw[el,cw,d,mP d l,fS,re,Nat.add_comm]
theorem Bg (S:bm Fd):∀u∈S.flatMap uG,u.oneCell'=tE:=by
 intro u d;obtain⟨f,_,h⟩:=em.1 d
 revert h;unfold uG Fd.cells
 simp;rintro(rfl|rfl|rfl|rfl|rfl)<;>rfl
def CU (c:bx)(p:Pg)(L:bx)(f0 f1 f2 f3 f4 f5 f6:cd)(S:bm Fd)(w w':World):Prop:=∃sA sC,Ck c p L f0 f1 f2 f3 f4 f5 f6 sA sC S w'/\Ext (·=c) w w'
theorem mQ {W:World}{g:bx}{d f h q v A D G J a9 uc ud ue ur uv u:cd}{t:gx}(hg:W.heap[g]?=tB (ua #[d,f,h,q,v,A,D,G,J,a9,uc,ud,ue,ur,uv] t (0,0))):
  (W.setCell ⟨g,9,tD⟩ u).heap[g]?=tB (ua #[d,f,h,q,v,A,D,G,J,u,uc,ud,ue,ur,uv] t (0,0)):=bk _ g 9 _ _ u hg
theorem zg {c:bx}{p:Pg}{L:bx}{f0 f1 f2 f3 f4 f5 f6:cd}{y:Ty}{sA:eA Addr}{sC:bx}{S:bm Fd}{e:Ex}{g cp:bx}(nm:aE)(ln cl:bp)(w:World)(h:Ck c p L f0 f1 f2 f3 f4 f5 f6 sA sC S w)(hy:Ei p S e y)(A0:y=(tE,p.snm))(A2:kg S nm=tD)(D2:S.length<=900000)(hg:CS w g e):
  gd ac 244 #[tR (tB ⟨c,0,tD⟩),tW #[Z U 1,tU y.1,tM y.2,tM nm,tP (tB ⟨g,0,tD⟩) 1 cp,tP tD 0 0,tP tD 0 0,Z U ln,Z U cl]] w λen w'=>en= ub (.tuple #[])/\CU c p L f0 f1 f2 f3 f4 f5 f6 (S++[⟨nm,y.1,y.2,0,0⟩]) w w':=by
 obtain⟨N,hN⟩:=zE w.heap.size;obtain⟨J,yr⟩:=zE (w.alloc (ua #[Z U 1,tU y.1,tM y.2,tM nm,tP (tB ⟨g,0,tD⟩) 1 cp,tP tD 0 0,tP tD 0 0,Z U ln,Z U cl] 282));have yv:=iV yr hN;have yy:J.heap[N]?=tB (ua #[Z U 1,tU y.1,tM y.2,tM nm,tP (tB ⟨g,0,tD⟩) 1 cp,tP tD 0 0,tP tD 0 0,Z U ln,Z U cl] 282 (0,0)):=by rw[<-yr,<-hN];exact alloc_at _ _
 have vp:=ae yy;have h1:=h.grow (by rw[hN];exact yv);have As:=hg.grow (by rw[hN];exact yv);have D3:=As.1;have D4:c<N:=by rw[<-hN];exact ae h.row
 have CN:=zH (dF J h1);have hst:∀(w:World)(c:da cd),c.size=2->(dr ⟨w.heap.size,0,tD⟩ [tU y.1,tM y.2] 0).run ac (w.alloc (ua c 32))= .ok () (w.alloc (ua #[tU y.1,tM y.2] 32)):=λw c hc=>
  ct (P:=ac) w 32 c #[tU y.1,tM y.2] (by show _=tB 2;kernel_rfl) hc (by simp[cj])
 have A4:∀(w:World)(c:da cd),c.size=2->(dr ⟨w.heap.size,0,tD⟩ [tU tG,tM ⟨#[]⟩] 0).run ac (w.alloc (ua c 32))= .ok () (w.alloc (ua #[tU tG,tM ⟨#[]⟩] 32)):=λw c hc=>
  ct (P:=ac) w 32 c #[tU tG,tM ⟨#[]⟩] (by show _=tB 2;kernel_rfl) hc (by simp[cj])
 have CT:=zH hst;have C3:=zH A4;have C4:cm (∀q:BW J,zP 213 #[tR (tB ⟨c,0,tD⟩),tW #[tU y.1,tM y.2]] q.w (tU tE)):=λq=>by
  rw[A0];exact qF p.snm q.w (h1.grow q.h) rfl
 have C5:cm (∀q:BW J,zP 176 #[tR (tB ⟨c,0,tD⟩),tU tE,Z U 5,tW #[Z U ln,Z U cl]] q.w (tU tE)):=λq=>bX 5 ln cl q.w (h1.grow q.h);have At:∀W,bh J.heap.size J W->gd ac 265 #[tR (tB ⟨c,0,tD⟩),tW e.cells] W λen w'=>en= ub (tW #[tU y.1,tM y.2])/\bh W.heap.size W w':=λW hW=>oC W (h1.grow hW) hy;unfold Ex.cells at At;have C6:=zH At;have C7:cm (∀W,bh J.heap.size J W->zP 214 #[tR (tB ⟨c,0,tD⟩),tM nm] W (.tuple #[tW #[tU tG,tM ⟨#[]⟩],tU tG])):=λW hW=>by
  have:=kK nm W (h1.grow hW);unfold pY at this;rw[A2] at this;exact this
 have A5:cm (∀f a b W,bh J.heap.size J W->zP 176 #[tR (tB ⟨c,0,tD⟩),tU tE,Z U f,tW #[Z U a,Z U b]] W (tU tE)):=λf a b W hW=>bX f a b W (h1.grow hW);obtain⟨⟨a0,a1,a2,a3,a4,a5,a6,a7,a8⟩,_,Ek⟩:=fQ yy;have H1:=zH h1;have A6:=zH As;have Dd:=zH yr;have Ax:=zH yv;have vq:=zH yy;have AD:=h.hc;obtain⟨i0,ws,wx,xf,xj⟩:=gA Cm;clear h hy A0 A2 hg yr yv yy h1 As hst A4 At;go_enter func244,ntmps244
 go_upto_region 1 with(fail)
 rw[Dd.out]
 go_upto_region 5 with(go_at_call 178;refine CN.out.mono ?_;rintro e J ⟨rfl,rfl⟩)
 clear a0 a1 a2 a3 a4 a5 a6 a7 a8;have x1:∀q:BW J,q.w.cell? ⟨N,1,tD⟩=tB (tU y.1):=λq=>(rowAt ((q.h.block N vp).trans vq.out) 1 rfl).1;have x2:∀q:BW J,q.w.cell? ⟨N,2,tD⟩=tB (tM y.2):=λq=>(rowAt ((q.h.block N vp).trans vq.out) 2 rfl).1;have x7:∀q:BW J,q.w.cell? ⟨N,7,tD⟩=tB (Z U ln):=λq=>(rowAt ((q.h.block N vp).trans vq.out) 7 rfl).1;have x8:∀q:BW J,q.w.cell? ⟨N,8,tD⟩=tB (Z U cl):=λq=>(rowAt ((q.h.block N vp).trans vq.out) 8 rfl).1
 go_cut [3] (λs wc=>s= tR (tB ⟨N,0,tD⟩)/\bh J.heap.size J wc)
 case first=>
  refine zQ ?_
  repeat (go_big_quiet_step (first
   |(go_at_call 213;exact aW (C4.out _))
   |(go_at_call 176;exact aW (C5.out _))))
  refine eh ?_;rintro _ ⟨q,rfl⟩;have v:=q.h;go_wp2
  go_meet
  case rel=>exact⟨rfl,v⟩
 case rest=>
  obtain⟨rfl,ud⟩:=hcut;clear x1 x2 x7 x8;have vj:=A6.out.grow ud;have Bk:=(ud.block N vp).trans vq.out;obtain⟨⟨a0,a1,a2,a3,a4,a5,a6,a7,a8⟩,_,EV⟩:=fQ Bk;have e0:=vj.2 0 _ rfl;have e1:=vj.2 1 _ rfl;have e2:=vj.2 2 _ rfl;have e3:=vj.2 3 _ rfl;have e4:=vj.2 4 _ rfl;have e5:=vj.2 5 _ rfl;have e6:=vj.2 6 _ rfl;have E0:=vj.1;have Dg:=zH (C6.out wc ud);have Bm:=zH ud;clear vj Bk ud
  go_upto_region 7 with(go_at_call 265;refine Dg.out.mono ?_;rintro en w5 ⟨rfl,By⟩;have Do:=zH (Bm.out.trans (By.mono Bm.out.size));have Ds:=CT.out w5;clear By)
  clear Ds;obtain⟨T,hT⟩:=zE w5.heap.size;obtain⟨W6,yW⟩:=zE (w5.alloc (ua #[tU y.1,tM y.2] 32));rw[hT,yW];have xl:=zD yW Do;have zc:W6.heap[T]?=tB (ua #[tU y.1,tM y.2] 32 (0,0)):=by rw[<-yW,<-hT];exact alloc_at _ _
  have BE:=ae zc;have AE:=A6.out.grow xl;have xo:=(xl.block N vp).trans vq.out;have zd:=ae xo;have t0:∀q:BW W6,q.w.cell? ⟨T,0,tD⟩=tB (tU y.1):=λq=>(rowAt ((q.h.block T BE).trans zc) 0 rfl).1;have t1:∀q:BW W6,q.w.cell? ⟨T,1,tD⟩=tB (tM y.2):=λq=>(rowAt ((q.h.block T BE).trans zc) 1 rfl).1;have x1:∀q:BW W6,q.w.cell? ⟨N,1,tD⟩=tB (tU y.1):=λq=>(rowAt ((q.h.block N zd).trans xo) 1 rfl).1;have x2:∀q:BW W6,q.w.cell? ⟨N,2,tD⟩=tB (tM y.2):=λq=>(rowAt ((q.h.block N zd).trans xo) 2 rfl).1;have x4:∀q:BW W6,q.w.cell? ⟨N,4,tD⟩=tB (tP (tB ⟨g,0,tD⟩) 1 cp):=λq=>(rowAt ((q.h.block N zd).trans xo) 4 rfl).1;have g5:∀q:BW W6,q.w.cell? ⟨g,5,tD⟩=tB (Z U e.ln):=λq=>(AE.grow q.h).2 5 _ rfl;have g6:∀q:BW W6,q.w.cell? ⟨g,6,tD⟩=tB (Z U e.cl):=λq=>(AE.grow q.h).2 6 _ rfl;have DA:cm (∀q:BW W6,zP 176 #[tR (tB ⟨c,0,tD⟩),tU tE,Z U 7,tW #[Z U e.ln,Z U e.cl]] q.w (tU tE)):=λq=>A5.out 7 e.ln e.cl q.w (xl.trans (q.h.mono xl.size));have BT:=zH xl;have DB:=zH xo;clear hT yW xl zc AE xo a0 a1 a2 a3 a4 a5 a6 a7 a8 e0 e1 e2 e3 e4 e5 e6
  go_cut [3] (λs wd=>s= tR (tB ⟨N,0,tD⟩)/\bh W6.heap.size W6 wd)
  case first=>
   refine zQ ?_
   repeat (go_big_quiet_step (first
    |(go_at_call 266;exact aW (qE _ _ _))
    |(go_at_call 176;exact aW (DA.out _))))
   refine eh ?_;rintro _ ⟨q,rfl⟩;have v:=q.h;clear t0 t1 x1 x2 x4 g5 g6;go_wp2
   go_meet
   case rel=>exact⟨rfl,v⟩
  case rest=>
   clear t0 t1 x1 x2 x4 g5 g6;obtain⟨rfl,AF⟩:=hcut;have AG:=BT.out.trans (AF.mono BT.out.size);have AH:=(AF.block N zd).trans DB.out;obtain⟨⟨a0,a1,a2,a3,a4,a5,a6,a7,a8⟩,_,E3⟩:=fQ AH;have DE:=zH (C7.out _ AG);have BY:=zH AG;have E4:=zH AH;clear AF AG AH
   go_upto_region 9 with(go_at_call 214;refine DE.out.mono ?_;rintro en w7 ⟨rfl,B4⟩;have DG:=zH (BY.out.trans (B4.mono BY.out.size));have DH:=C3.out w7;clear B4)
   clear DH;obtain⟨W8,AI⟩:=zE (w7.alloc (ua #[tU tG,tM ⟨#[]⟩] 32));rw[AI];have zj:=zD AI DG;have B5:=(zj.block N vp).trans vq.out;obtain⟨⟨a0,a1,a2,a3,a4,a5,a6,a7,a8⟩,_,E6⟩:=fQ B5;have DM:=zH (A5.out 6 ln cl W8 zj);have B6:=zH zj;clear AI zj B5
   go_upto_region 10 with(go_at_call 176;refine DM.out.mono ?_;rintro en D ⟨rfl,B8⟩;have vr:=zH (B6.out.trans (B8.mono B6.out.size));clear B8)
   have hD:=H1.out.grow vr.out;have AK:=(vr.out.block N vp).trans vq.out;obtain⟨B,hB⟩:=zE D.heap.size;have DO:N<B:=by rw[<-hB];exact ae AK
   have zp:c<B:=by omega
   obtain⟨ST,B9⟩:=zE ((λw'=>bh B D w'):World->Prop);have zr:∀w,ST w↔bh B D w:=λw=>by rw[<-B9]
   have uv:=zH zr;have zv:=zH hD.row;have DP:=zH AK;have Cd:=zH hD.seen;have Cl:∀w,ST w->w.cell? ⟨c,9,tD⟩=tB (tP sA S.length sC)/\w.cell? ⟨N,3,tD⟩=tB (tM nm)/\w.cell? ⟨N,1,tD⟩=tB (tU y.1)/\w.cell? ⟨N,2,tD⟩=tB (tM y.2)/\c<w.heap.size/\w.frozen? ⟨c,9,tD⟩=tG:=λw hw=>by
    have hb:=(zr w).1 hw;have r1:=(hb.block c zp).trans zv.out;have r2:=(hb.block N DO).trans DP.out;exact⟨(rowAt r1 9 rfl).1,(rowAt r2 3 rfl).1,(rowAt r2 1 rfl).1,(rowAt r2 2 rfl).1,ae r1,(rowAt r1 9 rfl).2⟩
   have uc:=zH Cl;obtain⟨wE,AM⟩:=zE D.drew;have DQ:ST wE:=(zr _).2 (by rw[<-AM,<-hB];exact(aq _ _).drew);have HD:=zH hD;have G:=zH hB;clear B9 zr Cl hD AK hB a0 a1 a2 a3 a4 a5 a6 a7 a8;have xp:cm (∀w,ST w->(sA=tD->S.length=0)/\∀ad,sA=tB ad->∀j u,(S.flatMap uG)[j]?=tB u->w.cell? (ad.add j)=tB u):=λw hw=>by
    have hb:=(uv.out w).1 hw;constructor
    ·intro AN
     rcases rj S.length with h|h
     ·exact h
     ·obtain⟨b,Cp,h1,_⟩:=Cd.out (rx.1 h)
      rw[AN] at h1;cases h1
    ·intro ad AN j u hu
     have DS:S≠[]:=by intro e;rw[e] at hu;simp at hu
     obtain⟨b,Cp,h1,h2,h3⟩:=Cd.out DS;rw[AN] at h1;obtain rfl:=cD h1;obtain⟨k,q,x,hx,v,rfl⟩:=rW (f:=uG) (m:=5) (by decide) (λ_=>rfl) S j u hu;rw[dc,hb.cell (p:=⟨b,Cp+(k*5+q),tD⟩) (by show b<B;rw[<-G.out];exact h2),<-sB];exact h3 k x hx q u v
   refine ak 16 ST (by kernel_rfl) ?_;rw[AM];clear AM;refine zT 0 rfl uc.out ?_
   try go_simp
   refine zT 2 rfl uc.out ?_
   try go_simp
   refine zT 3 rfl uc.out ?_
   try go_simp
   refine zT 4 rfl uc.out ?_
   try go_simp
   refine zT 5 rfl uc.out ?_
   try go_simp
   refine zT 7 rfl uc.out ?_
   try go_simp
   refine zT 8 rfl uc.out ?_
   try go_simp
   refine zT 9 rfl uc.out ?_
   try go_simp
   refine zT 10 rfl uc.out ?_
   try go_simp
   refine zT 11 rfl uc.out ?_
   try go_simp
   have xr:bh B D wE:=(uv.out _).1 DQ;refine qz (i:=1) (j:=12) (by kernel_rfl) (by decide) (by decide) rfl rfl (λK' d=> ?_) (λK' d=> ?_)
   ·rw[cR (by rfl)]
    go_simp;obtain⟨Wa,vf⟩:=zE (wE.alloc (ua #[] 92));obtain⟨ba,ux⟩:=zE wE.heap.size;have xt:bh B D Wa:=by rw[<-vf];exact xr.alloc (by have:=xr.size;rw[G.out] at this;exact this) _
    have vm:=xt;have wj:ST Wa:=(uv.out _).2 xt;have AS:B<=ba:=by rw[<-ux];have:=xr.size;rw[G.out] at this;exact this
    have AT:cm (Wa.heap.size=ba+1):=by unfold cm;rw[<-vf];simp[ux]
    have An:Wa.ownsRow B 92 5 (tP (tB ⟨ba,0,tD⟩) 0 0) 0 []:=by rw[<-vf,<-ux];exact jM _ _ _ _ (by rw[ux];exact AS)
    try rw[vf]
    try rw[ux]
    refine d _ _ wj ?_;clear d
    try go_simp
    refine qz (i:=6) (j:=12) (by kernel_rfl) (by decide) (by decide) rfl rfl (λK' d=> ?_) (λK' d=> ?_)
    ·rw[cR (by rfl)]
     refine aH (.tmp 64) (.tmp 68) 88 rfl B 92 i0 _ 5 56 ix ws wx xf xj rfl (by decide) (tP (tB ⟨ba,0,tD⟩) 0 0) 0 [] rfl An sA S.length sC (S.flatMap uG) rfl (mP (f:=uG) (λ_=>rfl) S) (xp.out _ wj).1 (xp.out _ wj).2 (Bg S) (by unfold dT;omega) (by omega) (by have:=vm.size;rw[G.out] at this;exact this) ?_;intro vb Wb vh wk CA;have vu:bh B D Wb:=vm.trans ((Ext.of_grown (M:=λq=>tB ba=tB q) wk (λq v=> .inl v)).below (by have:=vm.size;rw[G.out] at this;exact this) (λq v=>by have:=cD v;omega));have vi:=vu;have xF:ST Wb:=(uv.out _).2 vu;rw[cV,fc] at vh;refine d _ _ xF ?_;clear d
     try go_simp
     refine zO 12 rfl λK' d=> ?_;go_simp;obtain⟨Wc,ue⟩:=zE (Wb.alloc (ua #[tM nm,tU y.1,tM y.2,Z U 0,Z U 0] 92));obtain⟨bc,ud⟩:=zE Wb.heap.size;have vx:bh B D Wc:=by rw[<-ue];exact vi.alloc (by have:=vi.size;rw[G.out] at this;exact this) _
     have va:=vx;have wl:ST Wc:=(uv.out _).2 vx;have xT:cm (Wc.heap.size=bc+1):=by unfold cm;rw[<-ue];simp[ud]
     have ya:Wc.heap[bc]?=tB (ua #[tM nm,tU y.1,tM y.2,Z U 0,Z U 0] 92 (0,0)):=by rw[<-ue,<-ud];exact alloc_at _ _
     try rw[ue]
     try rw[ud]
     refine d _ _ wl ?_;clear d
     try go_simp
     have CC:Wc.ownsRow B 92 5 vb S.length (S.flatMap uG):=by rw[<-ue];exact ownsRow_below vh ((aq _ _).alloc (ce _) _)
     refine zO 13 rfl λK' d=> ?_;refine aH (.tmp 69) (.tmp 75) 88 rfl B 92 i0 _ 5 56 ix ws wx xf xj rfl (by decide) vb S.length (S.flatMap uG) rfl CC (tB ⟨bc,0,tD⟩) 1 1 [tM nm,tU y.1,tM y.2,Z U 0,Z U 0] rfl rfl (λh=>by cases h) (λad yb jj uu hu=>by
      obtain rfl:(⟨bc,0,tD⟩:Addr)=ad:=by simpa using yb
      rw[dc,cV,cc _ _ _ _ _ _ ya];simpa using hu) (by simp[cj]) (by unfold dT;omega) (by omega) (by have:=va.size;rw[G.out] at this;exact this) ?_
     intro vz A vy yd CD;obtain⟨gz,cz,ye,CH,CM⟩:=fG vy;subst ye;have ur:bh B D A:=va.trans ((Ext.of_grown (M:=λq=>vb.ownBlock=tB q) yd (λq v=> .inl v)).below (by have:=va.size;rw[G.out] at this;exact this) (λq v=>(au CC v).1));have we:ST A:=(uv.out _).2 ur;refine d _ _ we ?_;clear d
     try go_simp
     refine zT 14 rfl uc.out ?_
     try go_simp
     refine zT 15 rfl uc.out ?_
     try go_simp
     obtain⟨s1,s2,s3,s4,s5,s6⟩:=uc.out A we;refine zK rfl λK' d=> ?_;go_simp;refine d _ _ ?_;clear d;refine⟨by kernel_rfl, ?_⟩;have yi:=(ur.block c zp).trans zv.out;have wg:CU c p L f0 f1 f2 f3 f4 f5 f6 (S++[⟨nm,y.1,y.2,0,0⟩]) w (A.setCell ⟨c,9,tD⟩ (tP (tB ⟨gz,0,tD⟩) (S.length+1) cz)):=by
      have vc:Ext (·=c) A (A.setCell ⟨c,9,tD⟩ (tP (tB ⟨gz,0,tD⟩) (S.length+1) cz)):=Ext.set1 A c 9 _;have vd:(S++[(⟨nm,y.1,y.2,0,0⟩:Fd)]).length=S.length+1:=by rw[cw];rfl
      have yk:=(HD.out.pg.ext (Ext.of_below_size (M:=λ_=>mb) (show bh D.heap.size D A by rw[G.out];exact ur)) (λ_ _ h=>h)).ext vc (λk hk e=>by omega);have wi:A.ownsRow B 92 5 (tP (tB ⟨gz,0,tD⟩) (S.length+1) cz) (S.length+1) ((S++[(⟨nm,y.1,y.2,0,0⟩:Fd)]).flatMap uG):=by rw[eK];exact vy
      have yp:=af wi vc (λq v e=>by have:=(au wi v).1;omega);refine⟨tB ⟨gz,0,tD⟩,cz,⟨?_,yk,AD, ?_,by rw[vd];omega, ?_⟩, ?_⟩
      ·rw[vd];exact mQ yi
      ·exact eD (cells:=Fd.cells) (m:=5) (λ_=>rfl) yp vd.symm
      ·intro a _ ha e
       obtain rfl:=cD ha;have:gz=c:=e;omega
      ·exact((Ext.of_below_size (M:=(·=c)) (show bh w.heap.size w J by rw[hN];exact Ax.out)).trans (Ext.of_below_size (M:=(·=c)) (vr.out.trans ((show bh D.heap.size D A by rw[G.out];exact ur).mono vr.out.size))) (λk hk=> .inl hk)).trans vc (λk hk=> .inl hk)
     have yq:=zH wg;clear wg;go_wp2
     go_end0
     exact⟨rfl,yq.out⟩
    ·rw[cR (by rfl)]
     go_simp;obtain⟨Wc,ue⟩:=zE (Wa.alloc (ua #[tM nm,tU y.1,tM y.2,Z U 0,Z U 0] 92));obtain⟨bc,ud⟩:=zE Wa.heap.size;have vx:bh B D Wc:=by rw[<-ue];exact vm.alloc (by have:=vm.size;rw[G.out] at this;exact this) _
     have va:=vx;have wl:ST Wc:=(uv.out _).2 vx;have xT:cm (Wc.heap.size=bc+1):=by unfold cm;rw[<-ue];simp[ud]
     have ya:Wc.heap[bc]?=tB (ua #[tM nm,tU y.1,tM y.2,Z U 0,Z U 0] 92 (0,0)):=by rw[<-ue,<-ud];exact alloc_at _ _
     try rw[ue]
     try rw[ud]
     refine d _ _ wl ?_;clear d
     try go_simp
     have D0:Wc.ownsRow B 92 5 (tP (tB ⟨ba,0,tD⟩) 0 0) 0 []:=by rw[<-ue];exact ownsRow_below An ((aq _ _).alloc (ce _) _)
     refine zO 6 rfl λK' d=> ?_;refine aH (.tmp 64) (.tmp 68) 88 rfl B 92 i0 _ 5 56 ix ws wx xf xj rfl (by decide) (tP (tB ⟨ba,0,tD⟩) 0 0) 0 [] rfl D0 sA S.length sC (S.flatMap uG) rfl (mP (f:=uG) (λ_=>rfl) S) (xp.out _ wl).1 (xp.out _ wl).2 (Bg S) (by unfold dT;omega) (by omega) (by have:=va.size;rw[G.out] at this;exact this) ?_;intro vb Wb vh wk CA;have vu:bh B D Wb:=va.trans ((Ext.of_grown (M:=λq=>tB ba=tB q) wk (λq v=> .inl v)).below (by have:=va.size;rw[G.out] at this;exact this) (λq v=>by have:=cD v;omega));have vi:=vu;have xF:ST Wb:=(uv.out _).2 vu;rw[cV,fc] at vh;refine d _ _ xF ?_;clear d
     try go_simp
     have AW:Wb.heap[bc]?=tB (ua #[tM nm,tU y.1,tM y.2,Z U 0,Z U 0] 92 (0,0)):=(Ext.of_grown (M:=λq=>tB ba=tB q) wk (λq v=> .inl v)).heap ya (by intro h;have:=cD h;have:=AT.out;have:=xT.out;omega);refine zO 13 rfl λK' d=> ?_;refine aH (.tmp 69) (.tmp 75) 88 rfl B 92 i0 _ 5 56 ix ws wx xf xj rfl (by decide) vb S.length (S.flatMap uG) rfl vh (tB ⟨bc,0,tD⟩) 1 1 [tM nm,tU y.1,tM y.2,Z U 0,Z U 0] rfl rfl (λh=>by cases h) (λad yb jj uu hu=>by
      obtain rfl:(⟨bc,0,tD⟩:Addr)=ad:=by simpa using yb
      rw[dc,cV,cc _ _ _ _ _ _ AW];simpa using hu) (by simp[cj]) (by unfold dT;omega) (by omega) (by have:=vi.size;rw[G.out] at this;exact this) ?_
     intro vz A vy yd CD;obtain⟨gz,cz,ye,CH,CM⟩:=fG vy;subst ye;have ur:bh B D A:=vi.trans ((Ext.of_grown (M:=λq=>vb.ownBlock=tB q) yd (λq v=> .inl v)).below (by have:=vi.size;rw[G.out] at this;exact this) (λq v=>(au vh v).1));have we:ST A:=(uv.out _).2 ur;refine d _ _ we ?_;clear d
     try go_simp
     refine zT 14 rfl uc.out ?_
     try go_simp
     refine zT 15 rfl uc.out ?_
     try go_simp
     obtain⟨s1,s2,s3,s4,s5,s6⟩:=uc.out A we;refine zK rfl λK' d=> ?_;go_simp;refine d _ _ ?_;clear d;refine⟨by kernel_rfl, ?_⟩;have yi:=(ur.block c zp).trans zv.out;have wg:CU c p L f0 f1 f2 f3 f4 f5 f6 (S++[⟨nm,y.1,y.2,0,0⟩]) w (A.setCell ⟨c,9,tD⟩ (tP (tB ⟨gz,0,tD⟩) (S.length+1) cz)):=by
      have vc:Ext (·=c) A (A.setCell ⟨c,9,tD⟩ (tP (tB ⟨gz,0,tD⟩) (S.length+1) cz)):=Ext.set1 A c 9 _;have vd:(S++[(⟨nm,y.1,y.2,0,0⟩:Fd)]).length=S.length+1:=by rw[cw];rfl
      have yk:=(HD.out.pg.ext (Ext.of_below_size (M:=λ_=>mb) (show bh D.heap.size D A by rw[G.out];exact ur)) (λ_ _ h=>h)).ext vc (λk hk e=>by omega);have wi:A.ownsRow B 92 5 (tP (tB ⟨gz,0,tD⟩) (S.length+1) cz) (S.length+1) ((S++[(⟨nm,y.1,y.2,0,0⟩:Fd)]).flatMap uG):=by rw[eK];exact vy
      have yp:=af wi vc (λq v e=>by have:=(au wi v).1;omega);refine⟨tB ⟨gz,0,tD⟩,cz,⟨?_,yk,AD, ?_,by rw[vd];omega, ?_⟩, ?_⟩
      ·rw[vd];exact mQ yi
      ·exact eD (cells:=Fd.cells) (m:=5) (λ_=>rfl) yp vd.symm
      ·intro a _ ha e
       obtain rfl:=cD ha;have:gz=c:=e;omega
      ·exact((Ext.of_below_size (M:=(·=c)) (show bh w.heap.size w J by rw[hN];exact Ax.out)).trans (Ext.of_below_size (M:=(·=c)) (vr.out.trans ((show bh D.heap.size D A by rw[G.out];exact ur).mono vr.out.size))) (λk hk=> .inl hk)).trans vc (λk hk=> .inl hk)
     have yq:=zH wg;clear wg;go_wp2
     go_end0
     exact⟨rfl,yq.out⟩
   ·rw[cR (by rfl)]
    go_simp;obtain⟨Wc,ue⟩:=zE (wE.alloc (ua #[tM nm,tU y.1,tM y.2,Z U 0,Z U 0] 92));obtain⟨bc,ud⟩:=zE wE.heap.size;have vx:bh B D Wc:=by rw[<-ue];exact xr.alloc (by have:=xr.size;rw[G.out] at this;exact this) _
    have va:=vx;have wl:ST Wc:=(uv.out _).2 vx;have xT:cm (Wc.heap.size=bc+1):=by unfold cm;rw[<-ue];simp[ud]
    have ya:Wc.heap[bc]?=tB (ua #[tM nm,tU y.1,tM y.2,Z U 0,Z U 0] 92 (0,0)):=by rw[<-ue,<-ud];exact alloc_at _ _
    try rw[ue]
    try rw[ud]
    refine d _ _ wl ?_;clear d
    try go_simp
    refine zO 1 rfl λK' d=> ?_;go_simp;obtain⟨Wa,vf⟩:=zE (Wc.alloc (ua #[] 92));obtain⟨ba,ux⟩:=zE Wc.heap.size;have xt:bh B D Wa:=by rw[<-vf];exact va.alloc (by have:=va.size;rw[G.out] at this;exact this) _
    have vm:=xt;have wj:ST Wa:=(uv.out _).2 xt;have AS:B<=ba:=by rw[<-ux];have:=va.size;rw[G.out] at this;exact this
    have AT:cm (Wa.heap.size=ba+1):=by unfold cm;rw[<-vf];simp[ux]
    have An:Wa.ownsRow B 92 5 (tP (tB ⟨ba,0,tD⟩) 0 0) 0 []:=by rw[<-vf,<-ux];exact jM _ _ _ _ (by rw[ux];exact AS)
    try rw[vf]
    try rw[ux]
    refine d _ _ wj ?_;clear d
    try go_simp
    have D1:Wa.heap[bc]?=tB (ua #[tM nm,tU y.1,tM y.2,Z U 0,Z U 0] 92 (0,0)):=by rw[<-vf];exact(cn _ _ bc (by have:=xT.out;omega)).trans ya
    refine zO 6 rfl λK' d=> ?_;refine aH (.tmp 64) (.tmp 68) 88 rfl B 92 i0 _ 5 56 ix ws wx xf xj rfl (by decide) (tP (tB ⟨ba,0,tD⟩) 0 0) 0 [] rfl An sA S.length sC (S.flatMap uG) rfl (mP (f:=uG) (λ_=>rfl) S) (xp.out _ wj).1 (xp.out _ wj).2 (Bg S) (by unfold dT;omega) (by omega) (by have:=vm.size;rw[G.out] at this;exact this) ?_;intro vb Wb vh wk CA;have vu:bh B D Wb:=vm.trans ((Ext.of_grown (M:=λq=>tB ba=tB q) wk (λq v=> .inl v)).below (by have:=vm.size;rw[G.out] at this;exact this) (λq v=>by have:=cD v;omega));have vi:=vu;have xF:ST Wb:=(uv.out _).2 vu;rw[cV,fc] at vh;refine d _ _ xF ?_;clear d
    try go_simp
    have AW:Wb.heap[bc]?=tB (ua #[tM nm,tU y.1,tM y.2,Z U 0,Z U 0] 92 (0,0)):=(Ext.of_grown (M:=λq=>tB ba=tB q) wk (λq v=> .inl v)).heap D1 (by intro h;have:=cD h;have:=AT.out;have:=xT.out;omega);refine zO 13 rfl λK' d=> ?_;refine aH (.tmp 69) (.tmp 75) 88 rfl B 92 i0 _ 5 56 ix ws wx xf xj rfl (by decide) vb S.length (S.flatMap uG) rfl vh (tB ⟨bc,0,tD⟩) 1 1 [tM nm,tU y.1,tM y.2,Z U 0,Z U 0] rfl rfl (λh=>by cases h) (λad yb jj uu hu=>by
     obtain rfl:(⟨bc,0,tD⟩:Addr)=ad:=by simpa using yb
     rw[dc,cV,cc _ _ _ _ _ _ AW];simpa using hu) (by simp[cj]) (by unfold dT;omega) (by omega) (by have:=vi.size;rw[G.out] at this;exact this) ?_
    intro vz A vy yd CD;obtain⟨gz,cz,ye,CH,CM⟩:=fG vy;subst ye;have ur:bh B D A:=vi.trans ((Ext.of_grown (M:=λq=>vb.ownBlock=tB q) yd (λq v=> .inl v)).below (by have:=vi.size;rw[G.out] at this;exact this) (λq v=>(au vh v).1));have we:ST A:=(uv.out _).2 ur;refine d _ _ we ?_;clear d
    try go_simp
    refine zT 14 rfl uc.out ?_
    try go_simp
    refine zT 15 rfl uc.out ?_
    try go_simp
    obtain⟨s1,s2,s3,s4,s5,s6⟩:=uc.out A we;refine zK rfl λK' d=> ?_;go_simp;refine d _ _ ?_;clear d;refine⟨by kernel_rfl, ?_⟩;have yi:=(ur.block c zp).trans zv.out;have wg:CU c p L f0 f1 f2 f3 f4 f5 f6 (S++[⟨nm,y.1,y.2,0,0⟩]) w (A.setCell ⟨c,9,tD⟩ (tP (tB ⟨gz,0,tD⟩) (S.length+1) cz)):=by
     have vc:Ext (·=c) A (A.setCell ⟨c,9,tD⟩ (tP (tB ⟨gz,0,tD⟩) (S.length+1) cz)):=Ext.set1 A c 9 _;have vd:(S++[(⟨nm,y.1,y.2,0,0⟩:Fd)]).length=S.length+1:=by rw[cw];rfl
     have yk:=(HD.out.pg.ext (Ext.of_below_size (M:=λ_=>mb) (show bh D.heap.size D A by rw[G.out];exact ur)) (λ_ _ h=>h)).ext vc (λk hk e=>by omega);have wi:A.ownsRow B 92 5 (tP (tB ⟨gz,0,tD⟩) (S.length+1) cz) (S.length+1) ((S++[(⟨nm,y.1,y.2,0,0⟩:Fd)]).flatMap uG):=by rw[eK];exact vy
     have yp:=af wi vc (λq v e=>by have:=(au wi v).1;omega);refine⟨tB ⟨gz,0,tD⟩,cz,⟨?_,yk,AD, ?_,by rw[vd];omega, ?_⟩, ?_⟩
     ·rw[vd];exact mQ yi
     ·exact eD (cells:=Fd.cells) (m:=5) (λ_=>rfl) yp vd.symm
     ·intro a _ ha e
      obtain rfl:=cD ha;have:gz=c:=e;omega
     ·exact((Ext.of_below_size (M:=(·=c)) (show bh w.heap.size w J by rw[hN];exact Ax.out)).trans (Ext.of_below_size (M:=(·=c)) (vr.out.trans ((show bh D.heap.size D A by rw[G.out];exact ur).mono vr.out.size))) (λk hk=> .inl hk)).trans vc (λk hk=> .inl hk)
    have yq:=zH wg;clear wg;go_wp2
    go_end0
    exact⟨rfl,yq.out⟩
def p9 (p:Pg)(y:Ty)(S:bm Fd)(s:Sm)(d:bm Fd):Prop:=
 (s.kind=8/\∃e,s.es=[e]/\Ei p S e y/\d=S)\/(s.kind=9/\∃f,kg S s.nm=tB f/\f.ty.1=tE/\d=S)\/
 (s.kind=1/\∃e,s.es=[e]/\Ei p S e s.ty/\s.ty=(tE,p.snm)/\kg S s.nm=tD/\d=S++[⟨s.nm,s.ty.1,s.ty.2,0,0⟩])
theorem Ck.mv {c:bx}{p:Pg}{L:bx}{f0 f1 f2 f3 f4 f5 f6:cd}{sA:eA Addr}{sC:bx}{S:bm Fd}{w w':World}(h:Ck c p L f0 f1 f2 f3 f4 f5 f6 sA sC S w)(d:bh w.heap.size w w'):CU c p L f0 f1 f2 f3 f4 f5 f6 S w w':=
 ⟨sA,sC,h.grow d,Ext.of_below_size d⟩
theorem jA.sm {p:Pg}{L:bx}{w:World}(h:jA p L w){s:Sm}(A:s∈p.ss):(∃D n q,s.E= tP D n q)/\∀e,s.es=[e]->∃g q,s.E= tP (tB ⟨g,0,tD⟩) 1 q/\CS w g e:=by
 rcases h.ex s A with⟨d,v⟩|⟨g,cap,d,v,G⟩
 ·exact⟨⟨_,_,_,v⟩,λe f=>by rw[f] at d;cases d⟩
 ·refine⟨⟨_,_,_,d⟩,λe f=>⟨g,cap,by rw[d,f];rfl,bl v h.lo,λj u J=> ?_⟩⟩
  have:=G 0 e (by rw[f];rfl) j u J;simpa using this
theorem xN {c:bx}{p:Pg}{L:bx}{f0 f1 f4 f5 f6:cd}{y:Ty}{sA:eA Addr}{sC:bx}{S S1:bm Fd}{s:Sm}(w:World)(h:Ck c p L f0 f1 (tU y.1) (tM y.2) f4 f5 f6 sA sC S w)(hs:s∈p.ss)(hk:p9 p y S s S1)(ud:S.length<=900000):
  gd ac 244 #[tR (tB ⟨c,0,tD⟩),tW s.cells] w λA w'=>A= ub (.tuple #[])/\CU c p L f0 f1 (tU y.1) (tM y.2) f4 f5 f6 S1 w w':=by
 obtain⟨⟨ao,n,d,hE⟩,uc⟩:=h.pg.sm hs;rcases hk with⟨f,e,q,u,rfl⟩|⟨f,fd,q,u,rfl⟩|⟨f,e,q,u,h4,h5,rfl⟩
 ·obtain⟨g,d,D,G⟩:=uc e q
  unfold Sm.cells;rw[f,D];refine(oD 8 (.inl rfl) s.ty.1 s.ty.2 s.nm (tB ⟨g,0,tD⟩) 1 d s.ln s.cl w h (λW v=>zf s.ty.1 s.ty.2 s.nm s.ln s.cl W (h.grow v) u (G.grow v))).mono ?_;rintro A w' ⟨J,h7⟩;exact⟨J,h.mv h7⟩
 ·unfold Sm.cells
  rw[f,hE];refine(oD 9 (.inr rfl) s.ty.1 s.ty.2 s.nm ao n d s.ln s.cl w h (λW v=>xM s.ty.1 s.ty.2 s.nm ao n d s.ln s.cl W (h.grow v) q u)).mono ?_;rintro A w' ⟨J,h7⟩;exact⟨J,h.mv h7⟩
 ·obtain⟨g,d,D,G⟩:=uc e q
  unfold Sm.cells;rw[f,D];exact zg s.nm s.ln s.cl w h u h4 h5 ud G
inductive iQ (p:Pg) (y:Ty):bm Fd->bm Sm->Prop
 |nil (S:bm Fd):iQ p y S []
 |cons (S S1:bm Fd) (s:Sm) (l:bm Sm):p9 p y S s S1->iQ p y S1 l->iQ p y S (s::l)
theorem p9.kind {p:Pg}{y:Ty}{S d:bm Fd}{s:Sm}(h:p9 p y S s d):s.plainK:=by
 rcases h with h|h|h
 ·exact .inr (.inr (.inl h.1))
 ·exact .inr (.inr (.inr h.1))
 ·exact .inl h.1
theorem iQ.kinds {p:Pg}{y:Ty}{S:bm Fd}{l:bm Sm}(h:iQ p y S l):∀s∈l,s.plainK:=by
 induction h with
 |nil=>simp
 |cons S q s l f _ ih=>intro x d;rcases fy.1 d with rfl|d;exact f.kind;exact ih x d
theorem p9.len {p:Pg}{y:Ty}{S d:bm Fd}{s:Sm}(h:p9 p y S s d):d.length<=S.length+1:=by
 rcases h with⟨_,_,_,_,rfl⟩|⟨_,_,_,_,rfl⟩|⟨_,_,_,_,_,_,rfl⟩
 ·omega
 ·omega
 ·rw[cw];simp
def Iz (c:bx)(p:Pg)(L:bx)(f0 f1 f4 f5 f6:cd)(y:Ty)(w:World)(k:cd)(wr:World):Prop:=
 ∃(j:bx) (S:bm Fd) (sA:eA Addr) (sC:bx),k= Z U (j:bp)/\j<=p.ss.length/\S.length<=j/\iQ p y S (p.ss.drop j)/\Ck c p L f0 f1 (tU y.1) (tM y.2) f4 f5 f6 sA sC S wr/\Ext (·=c) w wr
theorem uX {c:bx}{p:Pg}{L:bx}{f0 f1 f4 f5 f6:cd}{y:Ty}(w:World)(h:Ck c p L f0 f1 (tU y.1) (tM y.2) f4 f5 f6 tD 0 [] w)(hk:iQ p y [] p.ss)(xr:p.ss.length<=1000)(vd:∀j,j<p.ss.length->(p.ss.take j).any iE=tG)(vf:p.ss≠[]):
  gd ac 215 #[tR (tB ⟨c,0,tD⟩),tP p.bA p.ss.length p.bC] w λen w'=>en= ub (.tuple #[])/\Ck c p L f0 f1 (tU y.1) (tM y.2) f4 f5 f6 tD 0 [] w'/\Ext (·=c) w w':=by
 obtain⟨b,uc,hA,xt,_⟩:=h.pg.st vf;have vx:=h.hc;have vy:=ae h.row;have c9:w.cell? ⟨c,9,tD⟩=tB (tP tD 0 0):=(rowAt h.row 9 rfl).1;have H:=zH h;have HA:=zH hA;have we:=zH vd;have HK:=zH hk;have xF:c<w.heap.size:=vy;rw[hA];have wg:cm (∀sA sC S W,Ck c p L f0 f1 (tU y.1) (tM y.2) f4 f5 f6 sA sC S W->zS 178 #[tR (tB ⟨c,0,tD⟩)] W (tU tG)):=λsA sC S W hW=>dF W hW;have wi:cm (∀s∈p.ss,s.plainK):=hk.kinds;clear h hA hk vd vf;go_enter func215,ntmps215
 go_upto_region 2 with(fail)
 clear c9
 go_loopw [5] (λk wr=>Iz c p L f0 f1 f4 f5 f6 y w k wr) (λk _=>p.ss.length-(intOf k).toNat)
 case atStart=>exact⟨0,[],tD,0,rfl,cN _,ce _,HK.out,H.out,Ext.refl _ _⟩
 case round=>
  obtain⟨j,S,sA,sC,rfl,hj,xT,ur,D,f⟩:=hrel;have uv:=zH D;have HX:=zH f;have wj:=zH (wg.out sA sC S wr D)
  by_cases G:j<p.ss.length
  ·have ya:(j:bp)<(p.ss.length:bp):=by omega
   obtain⟨s,hs⟩:∃s,p.ss[j]?=tB s:=⟨_,am G⟩
   have vh:p.ss.drop j=s::p.ss.drop (j+1):=by
    rw[eR G];have:p.ss[j]=s:=by rw[am G] at hs;exact cD hs
    rw[this]
   rw[vh] at ur;cases ur with
   |cons _ S1 _ _ hst vi=>
    have ux:=cf hs;obtain⟨⟨ao,n,cp,J⟩,_⟩:=D.pg.sm ux;have ud:∀W,bh wr.heap.size wr W->(∀(i:bx)(x:Sm),p.ss[i]?=tB x->∀(k:bx)(u:cd),x.cells.toList[k]?=tB u->W.cell? ⟨b,uc+i*9+k,tD⟩=tB u)/\b<W.heap.size:=λW hW=>by
     have vj:=(D.grow hW).pg;obtain⟨b',yb,h1,h2,h3⟩:=vj.st (by intro e;rw[e] at G;simp at G);rw[HA.out] at h1;simp only[dt,eW,pc] at h1;rw[<-h1.1] at h2 h3;rw[<-h1.2] at h3;exact⟨h3,bl h2 vj.lo⟩
    have va:(p.ss.take j).length=j:=by rw[pp];omega
    have wk:cm (∀q:BW wr,zP 216 #[tP (tB ⟨b,uc,tD⟩) j p.bC] q.w (tU tG)):=λq=>by
     have:=nA b uc p.bC (p.ss.take j) (by rw[va];omega) (λx f=>⟨wi.out x (List.mem_of_mem_take f),(D.pg.sm (List.mem_of_mem_take f)).1⟩) q.w (λ_=>(ud q.w q.h).2) (λi x f k u hu=>(ud q.w q.h).1 i x (by
      have h1:=ap.1 f;rw[pS] at f
      split at f
      ·exact f
      ·cases f) k u hu)
     rw[va,we.out j G] at this;exact this
    have wl:cm (∀q:BW wr,zP 176 #[tR (tB ⟨c,0,tD⟩),tU tE,Z U 3,tW #[Z U s.ln,Z U s.cl]] q.w (tU tE)):=λq=>bX 3 s.ln s.cl q.w (D.grow q.h);have v:=zH ud;have A:=zH hs;have vm:=zH hst;have ws:=zH vi;have wx:=zH ux;have HE:=zH J;have yd:b<wr.heap.size:=(ud wr (aq _ _)).2;have ye:j<=p.bC:=by have:=D.pg.cb;omega
    have yi:(j:bp)<=(p.bC:bp):=by omega
    clear D f hs vh hst vi ux J ud va
    go_upto_region 4 with(go_at_call 178;refine wj.out.mono ?_;rintro e wr ⟨rfl,rfl⟩)
    have s7:∀q:BW wr,q.w.cell? ⟨b,uc+j*9+7,tD⟩=tB (Z U s.ln):=λq=>(v.out q.w q.h).1 j s A.out 7 _ rfl;have s8:∀q:BW wr,q.w.cell? ⟨b,uc+j*9+8,tD⟩=tB (Z U s.cl):=λq=>(v.out q.w q.h).1 j s A.out 8 _ rfl
    go_cut [5] (λs wc=>s= Z U (j:bp)/\bh wr.heap.size wr wc)
    case first=>
     refine zQ ?_
     repeat (go_big_quiet_step (first
      |(go_at_call 216;exact aW (wk.out _))
      |(go_at_call 176;exact aW (wl.out _))))
     refine eh ?_;rintro _ ⟨q,rfl⟩;have hq:=q.h;clear s7 s8;go_wp2
     go_meet
     case rel=>exact⟨rfl,hq⟩
    case rest=>
     obtain⟨rfl,d⟩:=hcut;clear s7 s8;have vp:=uv.out.grow d;have vc:=zH (xN wc vp wx.out vm.out (by omega));have k0:=(v.out wc d).1 j s A.out 0 _ rfl;have k1:=(v.out wc d).1 j s A.out 1 _ rfl;have k2:=(v.out wc d).1 j s A.out 2 _ rfl;have k3:=(v.out wc d).1 j s A.out 3 _ rfl;have k4:=(v.out wc d).1 j s A.out 4 _ rfl;have k5:=(v.out wc d).1 j s A.out 5 _ rfl;have k6:=(v.out wc d).1 j s A.out 6 _ rfl;have k7:=(v.out wc d).1 j s A.out 7 _ rfl;have k8:=(v.out wc d).1 j s A.out 8 _ rfl;rw[mx] at k0;have J:=HE.out;rw[J] at k4;unfold Sm.cells at vc;rw[J] at vc;have yk:b<wc.heap.size:=(v.out wc d).2;have xf:=zH d;clear vp d J
     go_wp2_with (go_at_call 244;refine vc.out.mono ?_;rintro en w5 ⟨rfl,xj,xl,vq,vr⟩;have xo:=zH vq;have xp:=zH vr;clear vq vr)
     go_roundw
     case rel=>
      have yp:=vm.out.len;exact⟨j+1,S1,xj,xl,by go_num,G,by omega,ws.out,xo.out,(HX.out.trans (Ext.of_below_size (M:=λ_=>mb) xf.out) (λq h=>h.elim)).trans xp.out (λq h=> .inl h)⟩
     case measure=>simp[intOf];omega
  ·have yq:j=p.ss.length:=by omega
   have ue:=D.row;have yr:=ae ue;have f9:wr.frozen? ⟨c,9,tD⟩=tG:=(rowAt ue 9 rfl).2;have c9:wr.cell? ⟨c,9,tD⟩=tB (tP sA S.length sC):=(rowAt ue 9 rfl).1;clear D f ur ue;go_wp2
   go_end0
   have vu:Ext (·=c) wr (wr.setCell ⟨c,9,tD⟩ (tP tD 0 0)):=Ext.set1 wr c 9 _;exact⟨rfl,⟨mQ uv.out.row,uv.out.pg.ext vu (λk hk e=>by omega),vx,λh=>fW rfl h,by simp,λa h=>fW rfl h⟩,HX.out.trans vu (λq h=> .inl h)⟩
theorem Bh (u:eA Addr)(v:bx)(w:World):zP 211 #[tP u 1 v] w (tW #[Z U 0,Z U 0]):=by
 obtain⟨N,f⟩:=zE w.heap.size;obtain⟨A,d⟩:=zE (w.alloc (ua #[Z U 0,Z U 0] 40));have q:=iV d f;have h:A.heap[N]?=tB (ua #[Z U 0,Z U 0] 40 (0,0)):=by rw[<-d,<-f];exact alloc_at _ _
 obtain⟨⟨c0,c1⟩,⟨f0,f1⟩,uc⟩:=cB h;have D:=zH d;have G:=zH q;have J:=zH h;clear d q h;go_enter func211,ntmps211
 go_upto_region 1 with(fail)
 rw[D.out];go_wp2;(try simp only[db,Exit.then]);refine dv (eI (P:=ac) rfl _ _ N 40 _ (0,0) _ rfl (bv J.out) m5 rfl (by kernel_rfl)) rfl ?_;(try rw[f]);exact⟨rfl,(G.out.setCell (by show N<=N;omega) _).setCell (by show N<=N;omega) _⟩
theorem qV {c:bx}{p:Pg}{L:bx}{f0 f1 f2 f3 f4 f5 f6:cd}{sA:eA Addr}{sC:bx}{S:bm Fd}{fd:Fd}(w:World)(h:Ck c p L f0 f1 f2 f3 f4 f5 f6 sA sC S w)(hf:p.fs=[fd])(va:fd.ty=(tE,p.snm)):
  gd ac 175 #[tR (tB ⟨c,0,tD⟩)] w λen w'=>en= ub (.tuple #[])/\bh w.heap.size w w':=by
 have vj:p.pA<w.heap.size:=bl h.pg.pA h.pg.lo;have c0:w.cell? ⟨c,0,tD⟩=tB (tP (tB ⟨p.pA,0,tD⟩) 1 p.pC):=(rowAt h.row 0 rfl).1;have wx:=ae h.row;obtain⟨D,J,vm,vp,vq⟩:=h.pg.fd (by rw[hf];simp);have vr:D<w.heap.size:=bl vp h.pg.lo;have vu:p.fs.length=1:=by rw[hf];rfl
 have vx:∀W,bh w.heap.size w W->(W.cell? ⟨D,J,tD⟩=tB (tM fd.nm)/\W.cell? ⟨D,J+1,tD⟩=tB (tU tE)/\W.cell? ⟨D,J+2,tD⟩=tB (tM p.snm)/\W.cell? ⟨D,J+3,tD⟩=tB (Z U fd.ln)/\W.cell? ⟨D,J+4,tD⟩=tB (Z U fd.cl)):=λW A=>by
  have v:∀k u,fd.cells.toList[k]?=tB u->W.cell? ⟨D,J+k,tD⟩=tB u:=λk u hu=>by
   rw[A.cell (p:=⟨D,J+k,tD⟩) vr];have:=vq 0 fd (by rw[hf];rfl) k u hu;simpa using this
  have e1:fd.ptr=tE:=eM lE va;have e2:fd.tgt=p.snm:=eM oA va;refine⟨v 0 _ rfl, ?_, ?_,v 3 _ rfl,v 4 _ rfl⟩
  ·rw[<-e1];exact v 1 _ rfl
  ·rw[<-e2];exact v 2 _ rfl
 have vy:∀W,bh w.heap.size w W->(W.cell? ⟨p.pA,0,tD⟩=tB (tM p.snm)/\W.cell? ⟨p.pA,1,tD⟩=tB (tP (tB ⟨D,J,tD⟩) 1 p.fC)/\W.cell? ⟨p.pA,2,tD⟩=tB (Z U p.sl)/\W.cell? ⟨p.pA,3,tD⟩=tB (Z U p.sc)):=λW A=>by
  have v:=(h.pg.grow A).s;refine⟨v 0 _ rfl, ?_,v 2 _ rfl,v 3 _ rfl⟩;have we:=v 1 _ rfl;rw[vm,vu] at we;exact we
 have HF:=zH vx;have ue:=zH vy;have H:=zH h;have vc:cm (∀(f a b:bp) W,bh w.heap.size w W->zP 176 #[tR (tB ⟨c,0,tD⟩),tU tE,Z U f,tW #[Z U a,Z U b]] W (tU tE)):=λf a b W A=>bX f a b W (h.grow A);have xf:cm (∀W,bh w.heap.size w W->zS 178 #[tR (tB ⟨c,0,tD⟩)] W (tU tG)):=λW A=>dF W (h.grow A);have vd:∀W,bh w.heap.size w W->zP 212 #[tW p.cells,tM p.snm] W (Z U 0):=λW A=>by
  have:=gJ p.snm W (h.grow A).pg;unfold ow at this;rw[rr] at this;exact this
 unfold Pg.cells at vd;have xj:=zH vd;have xl:cm (∀W,bh w.heap.size w W->zP 213 #[tR (tB ⟨c,0,tD⟩),tW #[tU tE,tM p.snm]] W (tU tE)):=λW A=>qF p.snm W (h.grow A) rfl;have hst:∀(w:World)(c:da cd),c.size=5->(dr ⟨w.heap.size,0,tD⟩ [tM fd.nm,tU tE,tM p.snm,Z U fd.ln,Z U fd.cl] 0).run ac (w.alloc (ua c 92))= .ok () (w.alloc (ua #[tM fd.nm,tU tE,tM p.snm,Z U fd.ln,Z U fd.cl] 92)):=λw c hc=>
  ct (P:=ac) w 92 c #[tM fd.nm,tU tE,tM p.snm,Z U fd.ln,Z U fd.cl] (by show _=tB 5;kernel_rfl) hc (by simp[cj])
 have xo:=zH hst;clear h hf va vp vq vx vy vd vm vu hst;go_enter func175,ntmps175
 go_upto_region 3 with(first
  |(go_at_call 211;refine(Bh _ _ _).mono ?_;rintro e w2 ⟨rfl,wg⟩;have vf:=zH wg;clear wg)
  |(go_at_call 176;refine(vc.out _ _ _ w2 vf.out).mono ?_;rintro e w3 ⟨rfl,wi⟩;have xp:=zH (vf.out.trans (wi.mono vf.out.size));clear wi))
 clear c0
 go_loopw [3] (λi wr=>(i= Z U 0\/i= Z U 1)/\bh w.heap.size w wr) (λi _=>1-(intOf i).toNat)
 case atStart=>exact⟨.inl rfl,xp.out⟩
 case round=>
  obtain⟨hi,d⟩:=hrel;have vh:=zH d;have xr:=zH (xf.out wr d);rcases hi with rfl|rfl
  rotate_left
  ·clear d
   go_wp2
   go_end0
   exact⟨rfl,vh.out⟩
  have b0:∀q:BW wr,q.w.cell? ⟨c,0,tD⟩=tB (tP (tB ⟨p.pA,0,tD⟩) 1 p.pC):=λq=>(rowAt (H.out.grow (d.trans (q.h.mono d.size))).row 0 rfl).1;have b1:∀q:BW wr,q.w.cell? ⟨c,1,tD⟩=tB (tP (tB ⟨p.qA,0,tD⟩) 1 p.qC):=λq=>(rowAt (H.out.grow (d.trans (q.h.mono d.size))).row 1 rfl).1;have s0:∀q:BW wr,q.w.cell? ⟨p.pA,0,tD⟩=tB (tM p.snm):=λq=>(ue.out q.w (d.trans (q.h.mono d.size))).1;have s2:∀q:BW wr,q.w.cell? ⟨p.pA,2,tD⟩=tB (Z U p.sl):=λq=>(ue.out q.w (d.trans (q.h.mono d.size))).2.2.1;have s3:∀q:BW wr,q.w.cell? ⟨p.pA,3,tD⟩=tB (Z U p.sc):=λq=>(ue.out q.w (d.trans (q.h.mono d.size))).2.2.2;have xt:cm (∀q:BW wr,zP 176 #[tR (tB ⟨c,0,tD⟩),tU tE,Z U 6,tW #[Z U p.sl,Z U p.sc]] q.w (tU tE)):=λq=>vc.out 6 p.sl p.sc q.w (d.trans (q.h.mono d.size));have xF:=zH (λq:BW wr=>xj.out q.w (d.trans (q.h.mono d.size)));have ye:p.pA<wr.heap.size:=bl vj d.size;have yi:c<wr.heap.size:=bl wx d.size;clear d
  go_upto_region 5 with(go_at_call 178;refine xr.out.mono ?_;rintro e wr ⟨rfl,rfl⟩)
  go_cut [3] (λs wc=>s= Z U 0/\bh wr.heap.size wr wc)
  case first=>
   refine zQ ?_
   repeat (go_big_quiet_step (first
    |(go_at_call 212;exact aW (xF.out _))
    |(go_at_call 176;exact aW (xt.out _))))
   refine eh ?_;rintro _ ⟨q,rfl⟩;have v:=q.h;clear b0 b1 s0 s2 s3;go_wp2
   go_meet
   case rel=>exact⟨rfl,v⟩
  case rest=>
   obtain⟨rfl,wj⟩:=hcut;clear b0 b1 s0 s2 s3;have wk:=vh.out.trans (wj.mono vh.out.size);have xT:=zH wk;clear wj wk
   go_upto_region 7 with(fail)
   go_loopw [4] (λk wq=>(k= Z U 0\/k= Z U 1)/\bh w.heap.size w wq) (λk _=>1-(intOf k).toNat)
   case atStart=>exact⟨.inl rfl,xT.out⟩
   case round=>
    obtain⟨hk,uc⟩:=hrel;have wl:=zH uc;obtain⟨s0,s1,s2,s3⟩:=ue.out wr uc;have yk:p.pA<wr.heap.size:=bl vj uc.size;rcases hk with rfl|rfl
    rotate_left
    ·clear uc
     go_wp2;go_roundw
     case rel=>exact⟨.inr rfl,wl.out⟩
     case measure=>simp[intOf]
    obtain⟨k0,k1,k2,k3,k4⟩:=HF.out wr uc;have ya:=xo.out wr;have yp:D<wr.heap.size:=bl vr uc.size;clear uc
    go_upto_region 11 with(fail)
    clear ya;obtain⟨G,hG⟩:=zE wr.heap.size;obtain⟨W5,ur⟩:=zE (wr.alloc (ua #[tM fd.nm,tU tE,tM p.snm,Z U fd.ln,Z U fd.cl] 92));rw[hG,ur];have ws:=zD ur wl;have vi:W5.heap[G]?=tB (ua #[tM fd.nm,tU tE,tM p.snm,Z U fd.ln,Z U fd.cl] 92 (0,0)):=by rw[<-ur,<-hG];exact alloc_at _ _
    have uv:=ae vi;have ud:=zH ws;have ux:=zH vi;clear hG ur ws vi s0 s1 s2 s3 k0 k1 k2 k3 k4
    go_loopw [6] (λj wq=>j= Z U 0/\wq=W5) (λ_ _=>0)
    case atStart=>exact⟨rfl,rfl⟩
    case round=>
     obtain⟨rfl,rfl⟩:=hrel;have x1:∀q:BW wr,q.w.cell? ⟨G,1,tD⟩=tB (tU tE):=λq=>(rowAt ((q.h.block G uv).trans ux.out) 1 rfl).1;have x2:∀q:BW wr,q.w.cell? ⟨G,2,tD⟩=tB (tM p.snm):=λq=>(rowAt ((q.h.block G uv).trans ux.out) 2 rfl).1;have x3:∀q:BW wr,q.w.cell? ⟨G,3,tD⟩=tB (Z U fd.ln):=λq=>(rowAt ((q.h.block G uv).trans ux.out) 3 rfl).1;have x4:∀q:BW wr,q.w.cell? ⟨G,4,tD⟩=tB (Z U fd.cl):=λq=>(rowAt ((q.h.block G uv).trans ux.out) 4 rfl).1;have yb:cm (∀q:BW wr,zP 176 #[tR (tB ⟨c,0,tD⟩),tU tE,Z U 5,tW #[Z U fd.ln,Z U fd.cl]] q.w (tU tE)):=λq=>vc.out 5 fd.ln fd.cl q.w (ud.out.trans (q.h.mono ud.out.size));have yd:=zH (λq:BW wr=>xl.out q.w (ud.out.trans (q.h.mono ud.out.size)))
     go_upto_region 14 with(fail)
     refine zQ ?_
     repeat (go_big_quiet_step (first
      |(go_at_call 213;exact aW (yd.out _))
      |(go_at_call 176;exact aW (yb.out _))))
     refine eh ?_;rintro _ ⟨q,rfl⟩;have HQ:cm (bh w.heap.size w q.w):=ud.out.trans (q.h.mono ud.out.size);clear x1 x2 x3 x4;go_wp2;go_roundw
     case rel=>exact⟨.inr rfl,HQ.out⟩
     case measure=>simp[intOf]
def Pg.fnV (p:Pg):da cd:=#[tM p.nm,tP tD 0 0,tU p.ret.1,tM p.ret.2,tP p.bA p.ss.length p.bC,Z U p.gl,Z U p.gc]
theorem qa {c:bx}{p:Pg}{L:bx}{f0 f1 f2 f3 f4 f5 f6:cd}{sA:eA Addr}{sC:bx}{S:bm Fd}(w:World)(h:Ck c p L f0 f1 f2 f3 f4 f5 f6 sA sC S w)(vr:p.ret.1=tG)(hk:iQ p p.ret [] p.ss)(wj:p.ss.length<=1000)(vu:∀j,j<p.ss.length->(p.ss.take j).any iE=tG)(vx:p.ss≠[])(vy:p.ss.any iE=tE):
  gd ac 179 #[tR (tB ⟨c,0,tD⟩),tW p.fnV] w λen w'=>en= ub (.tuple #[])/\
   Ck c p L (tM p.nm) (tP tD 0 0) (tU p.ret.1) (tM p.ret.2) (tP p.bA p.ss.length p.bC) (Z U p.gl) (Z U p.gc) tD 0 [] w'/\Ext (·=c) w w':=by
 obtain⟨N,u⟩:=zE w.heap.size;unfold Pg.fnV;obtain⟨W1,ud⟩:=zE (w.alloc (ua #[tM p.nm,tP tD 0 0,tU p.ret.1,tM p.ret.2,tP p.bA p.ss.length p.bC,Z U p.gl,Z U p.gc] 233));have va:=iV ud u;have ue:W1.heap[N]?=tB (ua #[tM p.nm,tP tD 0 0,tU p.ret.1,tM p.ret.2,tP p.bA p.ss.length p.bC,Z U p.gl,Z U p.gc] 233 (0,0)):=by rw[<-ud,<-u];exact alloc_at _ _
 have yq:=ae ue;have h1:=h.grow (by rw[u];exact va);have yr:c<N:=by rw[<-u];exact ae h.row
 have d:=h1.row;have yv:=ae d;have r2:=(rowAt d 2 rfl)
 have r3:=(rowAt d 3 rfl)
 have r4:=(rowAt d 4 rfl)
 have r5:=(rowAt d 5 rfl)
 have r6:=(rowAt d 6 rfl)
 have r7:=(rowAt d 7 rfl)
 have r8:=(rowAt d 8 rfl)
 have r9:=(rowAt d 9 rfl)
 obtain⟨u2,v2⟩:=r2;obtain⟨u3,v3⟩:=r3;obtain⟨u4,v4⟩:=r4;obtain⟨u5,v5⟩:=r5;obtain⟨u6,v6⟩:=r6;obtain⟨u7,v7⟩:=r7;obtain⟨u8,v8⟩:=r8;obtain⟨u9,v9⟩:=r9;obtain⟨⟨v,A,D,G,J,a5,a6⟩,_,yy⟩:=dY ue;have H1:=zH h1;have wk:=zH d;have wl:=zH ud;have ws:=zH va;have wx:=zH ue;have xf:=h.hc;have xj:=zH vr;have HK:=zH hk;have xl:=zH vu;have xo:=zH vy;clear h vr hk vu vy ud va ue h1 d;go_enter func179,ntmps179
 go_upto_region 1 with(fail)
 rw[wl.out]
 go_upto_region 4 with(fail)
 obtain⟨W2,ur⟩:=zE ((((((((W1.setCell ⟨c,2,tD⟩ (tM p.nm)).setCell ⟨c,3,tD⟩ (tP tD 0 0)).setCell ⟨c,4,tD⟩ (tU p.ret.1)).setCell ⟨c,5,tD⟩ (tM p.ret.2)).setCell ⟨c,6,tD⟩ (tP p.bA p.ss.length p.bC)).setCell ⟨c,7,tD⟩ (Z U p.gl)).setCell ⟨c,8,tD⟩ (Z U p.gc)).setCell ⟨c,9,tD⟩ (tP tD 0 0));rw[ur];have uv:Ext (·=c) W1 W2:=by rw[<-ur];exact ah (ah (ah (ah (ah (ah (ah (ah (Ext.refl _ _) _) _) _) _) _) _) _) _
 have we:Ck c p L (tM p.nm) (tP tD 0 0) (tU p.ret.1) (tM p.ret.2) (tP p.bA p.ss.length p.bC) (Z U p.gl) (Z U p.gc) tD 0 [] W2:=by
  refine⟨?_,H1.out.pg.ext uv (λk hk e=>by omega),xf,λh=>fW rfl h,by simp,λa h=>fW rfl h⟩;rw[<-ur];exact bk _ c 9 _ _ _ (bk _ c 8 _ _ _ (bk _ c 7 _ _ _ (bk _ c 6 _ _ _ (bk _ c 5 _ _ _ (bk _ c 4 _ _ _ (bk _ c 3 _ _ _ (bk _ c 2 _ _ _ wk.out)))))))
 have vc:=uv.heap wx.out (by omega);have xp:=zH uv;have vd:=zH we;have f:=zH vc;have uc:=ae vc;clear ur uv we vc u2 u3 u4 u5 u6 u7 u8 u9 v2 v3 v4 v5 v6 v7 v8 v9 v A D G J a5 a6
 go_loopw [4] (λk wq=>k= Z U 0/\wq=W2) (λ_ _=>0)
 case atStart=>exact⟨rfl,rfl⟩
 case round=>
  obtain⟨rfl,rfl⟩:=hrel;obtain⟨⟨v,A,D,G,J,a5,a6⟩,_,_⟩:=dY f.out
  go_upto_region 10 with(fail)
  clear v A D G J a5 a6;have x2:∀q:BW wr,q.w.cell? ⟨N,2,tD⟩=tB (tU p.ret.1):=λq=>(rowAt ((q.h.block N uc).trans f.out) 2 rfl).1;have x3:∀q:BW wr,q.w.cell? ⟨N,3,tD⟩=tB (tM p.ret.2):=λq=>(rowAt ((q.h.block N uc).trans f.out) 3 rfl).1;have x5:∀q:BW wr,q.w.cell? ⟨N,5,tD⟩=tB (Z U p.gl):=λq=>(rowAt ((q.h.block N uc).trans f.out) 5 rfl).1;have x6:∀q:BW wr,q.w.cell? ⟨N,6,tD⟩=tB (Z U p.gc):=λq=>(rowAt ((q.h.block N uc).trans f.out) 6 rfl).1;have xr:cm (∀q:BW wr,zP 213 #[tR (tB ⟨c,0,tD⟩),tW #[tU p.ret.1,tM p.ret.2]] q.w (tU tE)):=λq=>by
   rw[xj.out];exact ze p.ret.2 q.w (vd.out.grow q.h)
  have xt:cm (∀q:BW wr,zP 176 #[tR (tB ⟨c,0,tD⟩),tU tE,Z U 5,tW #[Z U p.gl,Z U p.gc]] q.w (tU tE)):=λq=>bX 5 p.gl p.gc q.w (vd.out.grow q.h)
  go_cut [3] (λs wc=>s= tR (tB ⟨N,0,tD⟩)/\bh wr.heap.size wr wc)
  case first=>
   refine zQ ?_
   repeat (go_big_quiet_step (first
    |(go_at_call 213;exact aW (xr.out _))
    |(go_at_call 176;exact aW (xt.out _))))
   refine eh ?_;rintro _ ⟨q,rfl⟩;have hq:=q.h;clear x2 x3 x5 x6;go_wp2
   go_meet
   case rel=>exact⟨rfl,hq⟩
  case rest=>
   obtain⟨rfl,ux⟩:=hcut;clear x2 x3 x5 x6;have wg:=vd.out.grow ux;have xF:=zH (uX wc wg HK.out wj xl.out vx);have vf:=(ux.block N uc).trans f.out;obtain⟨⟨v,A,D,G,J,a5,a6⟩,_,yW⟩:=dY vf;have xT:=zH ux;have ya:=zH vf;clear wg vf ux
   go_upto_region 12 with(go_at_call 215;refine xF.out.mono ?_;rintro en w5 ⟨rfl,wi,vh⟩;have vi:=zH wi;have yb:=zH vh;have vj:=vh.heap ya.out (by omega);have vm:=zH vj;have vp:=ae vj;clear wi vh vj)
   have y4:∀q:BW w5,q.w.cell? ⟨N,4,tD⟩=tB (tP p.bA p.ss.length p.bC):=λq=>(rowAt ((q.h.block N vp).trans vm.out) 4 rfl).1;have y5:∀q:BW w5,q.w.cell? ⟨N,5,tD⟩=tB (Z U p.gl):=λq=>(rowAt ((q.h.block N vp).trans vm.out) 5 rfl).1;have y6:∀q:BW w5,q.w.cell? ⟨N,6,tD⟩=tB (Z U p.gc):=λq=>(rowAt ((q.h.block N vp).trans vm.out) 6 rfl).1;have yd:cm (∀q:BW w5,zP 176 #[tR (tB ⟨c,0,tD⟩),tU tE,Z U 8,tW #[Z U p.gl,Z U p.gc]] q.w (tU tE)):=λq=>bX 8 p.gl p.gc q.w (vi.out.grow q.h);have ye:cm (∀q:BW w5,zP 216 #[tP p.bA p.ss.length p.bC] q.w (tU tE)):=λq=>by
    have vq:=(vi.out.grow q.h).pg;obtain⟨b,yi,hA,yk,yp⟩:=vq.st vx;rw[hA];have:=nA b yi p.bC p.ss (by omega) (λx hx=>⟨HK.out.kinds x hx,(vq.sm hx).1⟩) q.w (λ_=>bl yk vq.lo) yp;rw[xo.out] at this;exact this
   clear v A D G J a5 a6;refine zQ ?_
   repeat (go_big_quiet_step (first
    |(go_at_call 216;exact aW (ye.out _))
    |(go_at_call 176;exact aW (yd.out _))))
   refine eh ?_;rintro _ ⟨q,rfl⟩;clear y4 y5 y6;go_wp2
   go_end0
   refine⟨rfl,vi.out.grow q.h, ?_⟩;have e1:Ext (·=c) w W1:=Ext.of_below_size (by rw[u];exact ws.out);exact(((e1.trans xp.out (λq h=> .inl h)).trans (Ext.of_below_size (M:=λ_=>mb) xT.out) (λq h=>h.elim)).trans yb.out (λq h=> .inl h)).trans (Ext.of_below_size (M:=λ_=>mb) q.h) (λq h=>h.elim)
def qG:aE:=⟨#[109,97,105,110]⟩
structure Fy (p:Pg):Prop where
 fs:∃fd,p.fs=[fd]/\fd.ty=(tE,p.snm)
 nm:p.nm=qG
 ret:p.ret.1=tG
 ok:iQ p p.ret [] p.ss
 ss:p.ss.length<=1000
 en:∀j,j<p.ss.length->(p.ss.take j).any iE=tG
 ne:p.ss≠[]
 fin:p.ss.any iE=tE
def IA (p:Pg):da cd:=#[tP (tB ⟨p.pA,0,tD⟩) 1 p.pC,tP (tB ⟨p.qA,0,tD⟩) 1 p.qC,tM ⟨#[]⟩,tP tD 0 0,tU tG,tM ⟨#[]⟩,tP tD 0 0,Z U 0,Z U 0,tP tD 0 0,Z U 0,Z U 0,Z U 0,Z U 0,Z U 0]
def ll (c:bx)(p:Pg)(L:bx)(w:World):Prop:=∃f0 f1 f2 f3 f4 f5 f6 sA sC S,Ck c p L f0 f1 f2 f3 f4 f5 f6 sA sC S w
theorem ll.grow {c:bx}{p:Pg}{L:bx}{w w':World}(h:ll c p L w)(d:bh w.heap.size w w'):ll c p L w':=by
 obtain⟨f0,f1,f2,f3,f4,f5,f6,sA,sC,S,h⟩:=h;exact⟨f0,f1,f2,f3,f4,f5,f6,sA,sC,S,h.grow d⟩
theorem ll.pg {c:bx}{p:Pg}{L:bx}{w:World}(h:ll c p L w):jA p L w:=by
 obtain⟨f0,f1,f2,f3,f4,f5,f6,sA,sC,S,h⟩:=h;exact h.pg
theorem kM {c:bx}{p:Pg}{L:bx}(f a b:bp)(w:World)(h:ll c p L w):
  zP 176 #[tR (tB ⟨c,0,tD⟩),tU tE,Z U f,tW #[Z U a,Z U b]] w (tU tE):=by
 obtain⟨f0,f1,f2,f3,f4,f5,f6,sA,sC,S,h⟩:=h;exact bX f a b w h
theorem xO {c:bx}{p:Pg}{L:bx}(w:World)(h:ll c p L w):zS 178 #[tR (tB ⟨c,0,tD⟩)] w (tU tG):=by
 obtain⟨f0,f1,f2,f3,f4,f5,f6,sA,sC,S,h⟩:=h;exact dF w h
theorem zh {c:bx}{p:Pg}{L:bx}(w:World)(h:ll c p L w)(d:Fy p):gd ac 179 #[tR (tB ⟨c,0,tD⟩),tW p.fnV] w λe w'=>e= ub (.tuple #[])/\ll c p L w'/\Ext (·=c) w w':=by
 obtain⟨f0,f1,f2,f3,f4,f5,f6,sA,sC,S,h⟩:=h;refine(qa w h d.ret d.ok d.ss d.en d.ne d.fin).mono ?_;rintro e w' ⟨f,q,u⟩;exact⟨f,⟨_,_,_,_,_,_,_,_,_,_,q⟩,u⟩
theorem ll.d {c:bx}{p:Pg}{L:bx}{w:World}(h:ll c p L w):w.cell? ⟨c,10,tD⟩=tB (Z U 0)/\w.cell? ⟨c,11,tD⟩=tB (Z U 0)/\w.cell? ⟨c,12,tD⟩=tB (Z U 0)/\w.cell? ⟨c,13,tD⟩=tB (Z U 0)/\c<w.heap.size:=by
 obtain⟨f0,f1,f2,f3,f4,f5,f6,sA,sC,S,h⟩:=h;exact⟨(rowAt h.row 10 rfl).1,(rowAt h.row 11 rfl).1,(rowAt h.row 12 rfl).1,(rowAt h.row 13 rfl).1,ae h.row⟩
structure Ej (N:bx)(p:Pg)(L:bx)(w W:World):Prop where
 ck:ll (N+2) p L W
 r0:W.heap[N]?=tB (ua #[tP (tB ⟨p.pA,0,tD⟩) 1 p.pC,tP (tB ⟨p.qA,0,tD⟩) 1 p.qC] 179 (0,0))
 r1:W.heap[N+1]?=tB (ua #[Z U 0,Z U 0,Z U 0,Z U 0] 113 (0,0))
 low:bh N w W
theorem Ej.grow {N:bx}{p:Pg}{L:bx}{w W W':World}(h:Ej N p L w W)(d:bh W.heap.size W W'):Ej N p L w W':=
 ⟨h.ck.grow d,(d.block N (ae h.r0)).trans h.r0,(d.block (N+1) (ae h.r1)).trans h.r1,h.low.trans (d.mono (pm (ae h.r0)))⟩
theorem Ej.fn {N:bx}{p:Pg}{L:bx}{w W:World}(h:Ej N p L w W):(W.cell? ⟨p.qA,0,tD⟩=tB (tM p.nm)/\W.cell? ⟨p.qA,1,tD⟩=tB (tP tD 0 0)/\W.cell? ⟨p.qA,2,tD⟩=tB (tU p.ret.1)/\W.cell? ⟨p.qA,3,tD⟩=tB (tM p.ret.2)/\W.cell? ⟨p.qA,4,tD⟩=tB (tP p.bA p.ss.length p.bC)/\W.cell? ⟨p.qA,5,tD⟩=tB (Z U p.gl)/\W.cell? ⟨p.qA,6,tD⟩=tB (Z U p.gc))/\p.qA<W.heap.size:=by
 have d:=h.ck.pg.f;exact⟨⟨d 0 _ rfl,d 1 _ rfl,d 2 _ rfl,d 3 _ rfl,d 4 _ rfl,d 5 _ rfl,d 6 _ rfl⟩,bl h.ck.pg.qA h.ck.pg.lo⟩
theorem uY {p:Pg}{L:bx}(w:World)(h:jA p L w)(ho:Fy p):
  zP 130 #[tW p.cells] w (tW #[Z U 0,Z U 0,Z U 0,Z U 0]):=by
 obtain⟨N,G⟩:=zE w.heap.size;obtain⟨fd,vm,vp⟩:=ho.fs;obtain⟨W2,J⟩:=zE ((w.alloc (ua #[tP (tB ⟨p.pA,0,tD⟩) 1 p.pC,tP (tB ⟨p.qA,0,tD⟩) 1 p.qC] 179)).alloc (ua #[Z U 0,Z U 0,Z U 0,Z U 0] 113));obtain⟨D,uc⟩:=zE (W2.alloc (ua (IA p) 275));have vq:=uF J G;have vr:W2.heap.size=N+2:=by rw[<-J];simp[G]
 have va:bh N w D:=by rw[<-uc];exact vq.alloc (by omega) _
 have vu:D.heap[N]?=tB (ua #[tP (tB ⟨p.pA,0,tD⟩) 1 p.pC,tP (tB ⟨p.qA,0,tD⟩) 1 p.qC] 179 (0,0)):=by
  rw[<-uc];refine(cn _ _ N (by omega)).trans ?_;rw[<-J,<-G];exact ia _ _ _
 have vx:D.heap[N+1]?=tB (ua #[Z U 0,Z U 0,Z U 0,Z U 0] 113 (0,0)):=by
  rw[<-uc];refine(cn _ _ (N+1) (by omega)).trans ?_;rw[<-J,<-G];exact lx _ _ _
 have vy:D.heap[N+2]?=tB (ua (IA p) 275 (0,0)):=by rw[<-uc,<-vr];exact alloc_at _ _
 have we:=h.grow (show bh w.heap.size w D by rw[G];exact va);have vc:Ck (N+2) p L (tM ⟨#[]⟩) (tP tD 0 0) (tU tG) (tM ⟨#[]⟩) (tP tD 0 0) (Z U 0) (Z U 0) tD 0 [] D:=
  ⟨vy,we,by have:=h.lo;omega,λh=>fW rfl h,by simp,λa h=>fW rfl h⟩
 have xo:=zH (qV D vc vm vp);have xp:cm (Ej N p L w D):=⟨⟨_,_,_,_,_,_,_,_,_,_,vc⟩,vu,vx,va⟩
 have HO:=zH ho;have vd:=uc;unfold IA at vd;have xr:=zH vd;have xt:=zH J;obtain⟨⟨u,v⟩,_,_⟩:=cB ((show W2.heap[N]?=tB (ua #[tP (tB ⟨p.pA,0,tD⟩) 1 p.pC,tP (tB ⟨p.qA,0,tD⟩) 1 p.qC] 179 (0,0)) by rw[<-J,<-G];exact ia _ _ _));have yd:N<W2.heap.size:=by omega
 unfold Pg.cells;clear h ho vm vp J uc vd vq va vu vx vy we vc;go_enter func130,ntmps130
 go_upto_region 1 with(fail)
 rw[xt.out]
 go_upto_region 2 with(fail)
 rw[xr.out];(try simp only[vr]);clear u v
 go_upto_region 4 with(go_at_call 175;refine xo.out.mono ?_;rintro en w4 ⟨rfl,wg⟩;have xF:=zH (xp.out.grow wg);clear wg)
 go_loopw [4] (λi wr=>(i= Z U 0\/i= Z U 1)/\Ej N p L w wr) (λi _=>1-(intOf i).toNat)
 case atStart=>exact⟨.inl rfl,xF.out⟩
 case round=>
  obtain⟨hi,f⟩:=hrel;obtain⟨⟨q0,q1,q2,q3,q4,q5,q6⟩,ye⟩:=f.fn;obtain⟨⟨u,v⟩,_,yi⟩:=cB f.r0;have wi:=zH f;have ue:=zH (kM 2 p.gl p.gc wr f.ck);clear f;rcases hi with rfl|rfl
  ·go_wp2_with (go_at_call 176;refine ue.out.mono ?_;rintro en w5 ⟨rfl,wj⟩;have vf:=zH (wi.out.grow wj);clear wj)
   go_roundw
   case rel=>exact⟨.inr rfl,vf.out⟩
   case measure=>simp[intOf]
  clear ue
  go_upto_region 8 with(fail)
  clear q0 q1 q2 q3 q4 q5 q6 u v
  go_loopw [5] (λi wr=>(i= Z U 0\/i= Z U 1)/\Ej N p L w wr) (λi _=>1-(intOf i).toNat)
  case atStart=>exact⟨.inl rfl,wi.out⟩
  case round=>
   obtain⟨hi,f⟩:=hrel;obtain⟨⟨u,v⟩,_,yk⟩:=cB f.r0;have A:=zH f;have yp:=f.fn.2;clear f;rcases hi with rfl|rfl
   ·go_upto_region 10 with(fail)
    clear u v;have x0:∀q:BW wr,q.w.cell? ⟨N,0,tD⟩=tB (tP (tB ⟨p.pA,0,tD⟩) 1 p.pC):=λq=>(rowAt (A.out.grow q.h).r0 0 rfl).1;have x1:∀q:BW wr,q.w.cell? ⟨N,1,tD⟩=tB (tP (tB ⟨p.qA,0,tD⟩) 1 p.qC):=λq=>(rowAt (A.out.grow q.h).r0 1 rfl).1;have y0:∀q:BW wr,q.w.cell? ⟨p.qA,0,tD⟩=tB (tM p.nm):=λq=>(A.out.grow q.h).fn.1.1;have y5:∀q:BW wr,q.w.cell? ⟨p.qA,5,tD⟩=tB (Z U p.gl):=λq=>(A.out.grow q.h).fn.1.2.2.2.2.2.1;have y6:∀q:BW wr,q.w.cell? ⟨p.qA,6,tD⟩=tB (Z U p.gc):=λq=>(A.out.grow q.h).fn.1.2.2.2.2.2.2;have vh:∀q:BW wr,zP 177 #[tW p.cells,tM p.nm] q.w (Z U 0):=λq=>by
     have:=oz p.nm q.w (A.out.grow q.h).ck.pg;unfold Ef at this;rw[rr] at this;exact this
    unfold Pg.cells at vh;have xT:=zH vh;have ue:=zH (λq:BW wr=>kM 6 p.gl p.gc q.w (A.out.grow q.h).ck);clear vh;refine zQ ?_
    repeat (go_big_quiet_step (first
     |(go_at_call 177;exact aW (xT.out _))
     |(go_at_call 176;exact aW (ue.out _))))
    refine eh ?_;rintro _ ⟨q,rfl⟩;have HQ:=zH (A.out.grow q.h);clear x0 x1 y0 y5 y6;go_wp2;go_roundw
    case rel=>exact⟨.inr rfl,HQ.out⟩
    case measure=>simp[intOf]
   go_upto_region 12 with(fail)
   clear u v
   go_loopw [6] (λi wr=>(i= Z U 0\/i= Z U 1)/\Ej N p L w wr) (λi _=>1-(intOf i).toNat)
   case atStart=>exact⟨.inl rfl,A.out⟩
   case round=>
    obtain⟨hi,f⟩:=hrel;obtain⟨⟨u,v⟩,_,yq⟩:=cB f.r0;obtain⟨⟨q0,q1,q2,q3,q4,q5,q6⟩,yr⟩:=f.fn;have ud:=zH f;have wk:=zH (xO wr f.ck);have vi:=zh wr f.ck HO.out;unfold Pg.fnV at vi;have wl:=zH vi;clear f vi;rcases hi with rfl|rfl
    ·go_wp2_with (first
      |(go_at_call 178;refine wk.out.mono ?_;rintro e wr ⟨rfl,rfl⟩)
      |(go_at_call 179;refine wl.out.mono ?_;rintro en w5 ⟨rfl,ws,ur⟩;have vf:cm (Ej N p L w w5):=(⟨ws,ur.heap ud.out.r0 (by omega),ur.heap ud.out.r1 (by omega),ud.out.low.trans (ur.below (by omega) (λq hq=>by omega))⟩:Ej N p L w w5);clear ws ur))
     go_roundw
     case rel=>exact⟨.inr rfl,vf.out⟩
     case measure=>simp[intOf]
    have wx:p.nm=qG:=HO.out.nm;have vj:zP 177 #[tW p.cells,tM qG] wr (Z U 0):=by
     have:=oz qG wr ud.out.ck.pg;unfold Ef at this;rw[wx,rr] at this;exact this
    unfold Pg.cells qG at vj;have ya:=zH vj;clear wx vj wl wk
    go_upto_region 16 with(go_at_call 177;refine ya.out.mono ?_;rintro en w6 ⟨rfl,xf⟩;have uv:=zH (ud.out.grow xf);clear xf)
    clear u v q0 q1 q2 q3 q4 q5 q6;obtain⟨⟨u,v⟩,_,yv⟩:=cB uv.out.r0;obtain⟨⟨q0,q1,q2,q3,q4,q5,q6⟩,yy⟩:=uv.out.fn;have xj:=HO.out.ret;rw[xj] at q2;have yb:=zH (kM 9 1 1 w6 uv.out.ck);clear xj
    go_upto_region 17 with(go_at_call 176;refine yb.out.mono ?_;rintro en w7 ⟨rfl,xl⟩;have ux:=zH (uv.out.grow xl);clear xl)
    clear u v q0 q1 q2 q3 q4 q5 q6;obtain⟨d0,d1,d2,d3,yW⟩:=ux.out.ck.d;obtain⟨⟨e0,e1,e2,e3⟩,⟨f0,f1,f2,f3⟩,zc⟩:=mY ux.out.r1;go_wp2;(try simp only[db,Exit.then]);refine dv (eI (P:=ac) rfl _ _ (N+1) 113 _ (0,0) _ rfl (jd ux.out.r1) ph rfl (by kernel_rfl)) rfl ?_;(try rw[G]);exact⟨rfl,rM ux.out.low (by omega) _ _ _ _⟩
end Go.Proofs.YtjomgckjhcfbgaaGreat
