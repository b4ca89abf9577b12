/- Walks. -/
import Derived.Test.YtjomgckjhcfbgaaGreatU3
set_option maxRecDepth 100000
set_option maxHeartbeats 64000000
set_option linter.all false
namespace Go.Proofs.YtjomgckjhcfbgaaGreat
open Go.RowKit
open Go.Proofs.Tryz renaming prog→am,underlying88→iu,underlying40→nh,underlying113→pw
open _root_.List renaming getElem?_eq_getElem→ap,getElem?_eq_some_iff→bl,length_append→bo,mem_of_getElem?→cd,take_length→cR,length_take→ee,length_cons→eV,nil_append→fN,flatMap_cons→fW,mem_cons→gh,flatMap_append→gn,getElem?_append_right→hZ,drop_eq_getElem_cons→jn,any_eq_true→kh,mem_flatMap→kq,mem_of_mem_take→kA,length_pos_iff→ms,getElem?_take→mz,getElem?_append_left→mB
open Go.RowKit.Below renaming refl→aq,heap_alloc→cJ
open _root_ renaming Int→aw,Nat→bh,List→bj,ByteArray→bm,Option→cG,if_pos→cI,Array→eA,absurd→fL,beq_self_eq_true→iS,False→me,Bool→mm,and_true→pf
open Go.RowKit renaming Below→aE,Hid→cj,intOf→de
open Go renaming heap_setCell_same→bk,cell_of_row→bw,run_storeCells_new→cx,Value→cA,wpQuiet_nil→dj,storeCells→dt,bodyPost_ret→er,maxLen→eC,results_cell_row→fk,Addr→fS,Calls→ge,TypeId→gt,heap_alloc2_new→jp,heap_alloc2_old→kp,info_parts→kB
open _root_.Nat renaming le_refl→cg,lt_of_lt_of_le→cH,zero_add→cL,zero_le→cN,add_zero→ki,le_of_lt→nx,add_comm→rl,succ_mul→sq
open Go.Value renaming oneCell'→ct,string→tS,slice→tU,pointer→tW,bool→ua,agg→ub,int→Z
open _root_.Option.some renaming inj→cE,injEq→dd
open Go.Addr renaming add_lit→cY
open Go.Exit renaming inBlock→dk
open _root_.Prod renaming fst→eN,snd→fh
open Go.Addr.mk renaming injEq→eR
open _root_.Option renaming some→tG,none→tM
open _root_.Bool renaming true→tP,false→tR
open Go.Obj renaming cells→uc
open Go.Ending renaming returned→ud
open Go.IntKind renaming i64→U
open Tryz
def Sm.plainK (s:Sm):Prop:=s.kind=1\/s.kind=3\/s.kind=8\/s.kind=9
def iK (s:Sm):mm:=s.kind==8
theorem xS (s:Sm)(q:s.plainK)(ao:cG fS)(n cp:bh)(e:s.E= tU ao n cp)(w:World):
  zP 245 #[ub s.cells] w (ua (iK s)):=by
 obtain⟨W1,d⟩:=zE (w.alloc (uc #[Z U s.kind,ua s.ty.1,tS s.ty.2,tS s.nm,tU ao n cp,tU tM 0 0,tU tM 0 0,Z U s.ln,Z U s.cl] 282));have f:=il d;have g:W1.heap[w.heap.size]?=tG (uc #[Z U s.kind,ua s.ty.1,tS s.ty.2,tS s.nm,tU ao n cp,tU tM 0 0,tU tM 0 0,Z U s.ln,Z U s.cl] 282 (0,0)):=by rw[<-d];exact alloc_at _ _
 obtain⟨⟨c0,c1,c2,c3,c4,c5,u,v,x⟩,_,y⟩:=fV g;unfold Sm.cells;rw[e];have j:=zH d;have t:=zH f;clear d f g e;rcases q with h|h|h|h<;>(
  have o:cj (iK s=(s.kind==8)):=rfl;rw[o.out];rw[h] at c0 j⊢;clear h o;go_enter func245,ntmps245
  go_upto_region 1 with(fail)
  rw[j.out];go_wp2;go_ret;exact⟨rfl,t.out⟩)
theorem ng (b y cap:bh)(l:bj Sm)(hl:l.length<=1000000)(R:∀s∈l,s.plainK/\∃ao n cp,s.E= tU ao n cp)(w:World)(hb:l≠[]->b<w.heap.size)(hc:∀(i:bh)(x:Sm),l[i]?=tG x->∀(k:bh)(u:cA),x.cells.toList[k]?=tG u->w.cell? ⟨b,y+i*9+k,tM⟩=tG u):
  zP 216 #[tU (tG ⟨b,y,tM⟩) l.length cap] w (ua (l.any iK)):=by
 have HK:=zH R;have HB:=zH hb;have HC:=zH hc;clear R hb hc;go_enter func216,ntmps216;go_wp2
 go_loopw [3] (λk wr=>∃j:bh,k= Z U (j:aw)/\j<=l.length/\(l.take j).any iK=tR/\aE w.heap.size w wr) (λk _=>l.length-(de k).toNat)
 case atStart=>exact⟨0,rfl,cN _,rfl,aq _ _⟩
 case round=>
  obtain⟨j,rfl,hj,f,z⟩:=hrel;have HZ:=zH f;have g:=zH z
  by_cases A:j<l.length
  ·have vh:(j:aw)<(l.length:aw):=by omega
   obtain⟨x,o⟩:∃x,l[j]?=tG x:=⟨_,ap A⟩
   have ux:=HB.out (by intro e;rw[e] at A;simp at A);obtain⟨ue,ao,n,cp,G⟩:=HK.out x (cd o);have d:∀(k:bh)(u:cA),x.cells.toList[k]?=tG u->wr.cell? ⟨b,y+j*9+k,tM⟩=tG u:=λk u hu=>(z.cell (p:=⟨b,y+j*9+k,tM⟩) ux).trans (HC.out j x o k u hu);have k0:=d 0 _ rfl;have k1:=d 1 _ rfl;have k2:=d 2 _ rfl;have k3:=d 3 _ rfl;have k4:=d 4 _ rfl;have k5:=d 5 _ rfl;have k6:=d 6 _ rfl;have k7:=d 7 _ rfl;have k8:=d 8 _ rfl;rw[ki] at k0;rw[G] at k4;have t:=xS x ue ao n cp G wr;obtain⟨q,J⟩:=zE (iK x);rw[J] at t;unfold Sm.cells at t;rw[G] at t;have up:=zH t;have ur:(l.take (j+1)).any iK=q:=by rw[zo l iK o,f,J];simp
   have vc:=zH ur;have uv:q=tP->l.any iK=tP:=λh=>by rw[kh];exact⟨x,cd o,by rw[J];exact h⟩
   have vd:=zH uv;clear f z o G t J d ur uv ue;cases q with
   |true=>
    go_wp2_with (go_at_call 245;refine up.out.mono ?_;rintro e w2 ⟨rfl,v⟩;have K:=zH (g.out.trans (v.mono g.out.size));clear v)
    go_ret;rw[vd.out (by first|rfl|trivial)];exact⟨rfl,K.out⟩
   |false=>
    go_wp2_with (go_at_call 245;refine up.out.mono ?_;rintro e w2 ⟨rfl,v⟩;have K:=zH (g.out.trans (v.mono g.out.size));clear v)
    go_roundw
    case rel=>exact⟨j+1,by go_num,A,vc.out,K.out⟩
    case measure=>simp[de];omega
  ·have vf:j=l.length:=by omega
   subst vf;rw[cR] at f;have HE:cj (l.any iK=tR):=f;clear f z;go_wp2;go_ret;rw[HE.out];exact⟨rfl,g.out⟩
def Fz (p:Pg)(S:bj Fd)(e:Ex)(y:Ty):Prop:=
 (e.kind=1/\y=bM)\/(e.kind=2/\∃d,j3 S e.nm=tG d/\d.ty=y)\/(e.kind=7/\p.snm=e.nm/\y=(tP,e.nm))
theorem oL {c:bh}{p:Pg}{L:bh}{f0 f1 f2 f3 f4 f5 f6:cA}{sA:cG fS}{sC:bh}{S:bj Fd}{e:Ex}{y:Ty}(w:World)(h:Ck c p L f0 f1 f2 f3 f4 f5 f6 sA sC S w)(g:Fz p S e y):
  ge am 265 #[tW (tG ⟨c,0,tM⟩),ub e.cells] w λj w'=>j= ud (ub #[ua y.1,tS y.2])/\aE w.heap.size w w':=by
 unfold Ex.cells;rcases g with⟨d,rfl⟩|⟨d,o,f,rfl⟩|⟨d,f,rfl⟩
 ·rw[d];exact Ca e.n e.nm e.ln e.cl w h
 ·rw[d];exact Cb e.n e.nm e.ln e.cl w h f
 ·rw[d];exact Cc e.n e.nm e.ln e.cl w h f
def Ec (w:World)(g:bh)(e:Ex):Prop:=g<w.heap.size/\∀(j:bh)(u:cA),e.cells.toList[j]?=tG u->w.cell? ⟨g,j,tM⟩=tG u
theorem Ec.grow {w w':World}{g:bh}{e:Ex}(h:Ec w g e)(d:aE w.heap.size w w'):Ec w' g e:=⟨cH h.1 d.size,λj u f=>by rw[d.cell (p:=⟨g,j,tM⟩) h.1];exact h.2 j u f⟩
theorem zI {c:bh}{p:Pg}{L:bh}{f0 f1 f4 f5 f6:cA}{y:Ty}{sA:cG fS}{sC:bh}{S:bj Fd}{e:Ex}{g cp:bh}(E:mm)(G nm:bm)(ln cl:aw)(w:World)(h:Ck c p L f0 f1 (ua y.1) (tS y.2) f4 f5 f6 sA sC S w)(hy:Fz p S e y)(hg:Ec w g e):
  ge am 268 #[tW (tG ⟨c,0,tM⟩),ub #[Z U 8,ua E,tS G,tS nm,tU (tG ⟨g,0,tM⟩) 1 cp,tU tM 0 0,tU tM 0 0,Z U ln,Z U cl]] w λen w'=>en= ud (.tuple #[])/\aE w.heap.size w w':=by
 obtain⟨N,j⟩:=zE w.heap.size;obtain⟨W1,t⟩:=zE (w.alloc (uc #[Z U 8,ua E,tS G,tS nm,tU (tG ⟨g,0,tM⟩) 1 cp,tU tM 0 0,tU tM 0 0,Z U ln,Z U cl] 282));have u:=iR t j;have v:W1.heap[N]?=tG (uc #[Z U 8,ua E,tS G,tS nm,tU (tG ⟨g,0,tM⟩) 1 cp,tU tM 0 0,tU tM 0 0,Z U ln,Z U cl] 282 (0,0)):=by rw[<-t,<-j];exact alloc_at _ _
 have ur:=aa v;have J:=h.grow (by rw[j];exact u);have d:=hg.grow (by rw[j];exact u);have K:=oL W1 J hy;unfold Ex.cells at K;have vd:=zH K;have e0:=d.2 0 _ rfl;have e1:=d.2 1 _ rfl;have e2:=d.2 2 _ rfl;have e3:=d.2 3 _ rfl;have e4:=d.2 4 _ rfl;have e5:=d.2 5 _ rfl;have e6:=d.2 6 _ rfl;obtain⟨⟨a0,a1,a2,a3,a4,a5,a6,a7,a8⟩,_,vx⟩:=fV v;have hst:∀(w:World)(c:eA cA),c.size=2->(dt ⟨w.heap.size,0,tM⟩ [ua y.1,tS y.2] 0).run am (w.alloc (uc c 32))= .ok () (w.alloc (uc #[ua y.1,tS y.2] 32)):=λw c hc=>
  cx (P:=am) w 32 c #[ua y.1,tS y.2] (by show _=tG 2;kernel_rfl) hc (by simp[ct])
 have vf:=zH hst;have H1:=zH J;have vh:=zH d;have vm:=zH t;have vp:=zH u;have vq:=zH v;have vy:=d.1;clear h hy hg t u v J d K hst;go_enter func268,ntmps268
 go_upto_region 1 with(fail)
 rw[vm.out]
 go_upto_region 7 with(go_at_call 265;refine vd.out.mono ?_;rintro en w2 ⟨rfl,uv⟩;have vr:=zH uv;have vt:=vf.out w2;clear uv)
 clear vt;obtain⟨T,R⟩:=zE w2.heap.size;obtain⟨f,x⟩:=zE (w2.alloc (uc #[ua y.1,tS y.2] 32));rw[R,x];have o:=zD x vr;have z:f.heap[T]?=tG (uc #[ua y.1,tS y.2] 32 (0,0)):=by rw[<-x,<-R];exact alloc_at _ _
 have ux:=aa z;have A:=H1.out.grow o;have ue:=vh.out.grow o;have up:=(o.block N ur).trans vq.out;have t0:∀q:BW f,q.w.cell? ⟨T,0,tM⟩=tG (ua y.1):=λq=>(rowAt ((q.h.block T ux).trans z) 0 rfl).1;have t1:∀q:BW f,q.w.cell? ⟨T,1,tM⟩=tG (tS y.2):=λq=>(rowAt ((q.h.block T ux).trans z) 1 rfl).1;have c4:∀q:BW f,q.w.cell? ⟨c,4,tM⟩=tG (ua y.1):=λq=>(rowAt (A.grow q.h).row 4 rfl).1;have c5:∀q:BW f,q.w.cell? ⟨c,5,tM⟩=tG (tS y.2):=λq=>(rowAt (A.grow q.h).row 5 rfl).1;have x4:∀q:BW f,q.w.cell? ⟨N,4,tM⟩=tG (tU (tG ⟨g,0,tM⟩) 1 cp):=λq=>(rowAt ((q.h.block N (aa up)).trans up) 4 rfl).1;have g5:∀q:BW f,q.w.cell? ⟨g,5,tM⟩=tG (Z U e.ln):=λq=>(ue.grow q.h).2 5 _ rfl;have g6:∀q:BW f,q.w.cell? ⟨g,6,tM⟩=tG (Z U e.cl):=λq=>(ue.grow q.h).2 6 _ rfl;have vu:cj (∀q:BW f,zP 176 #[tW (tG ⟨c,0,tM⟩),ua tP,Z U 7,ub #[Z U e.ln,Z U e.cl]] q.w (ua tP)):=λq=>bX 7 e.ln e.cl q.w (A.grow q.h);have vc:=zH o;clear R x o z A ue up a0 a1 a2 a3 a4 a5 a6 a7 a8 e0 e1 e2 e3 e4 e5 e6;refine zQ ?_
 repeat (go_big_quiet_step (first
  |(go_at_call 266;exact bE (qE _ _ _))
  |(go_at_call 176;exact bE (vu.out _))))
 refine dj ?_;rintro _ ⟨q,rfl⟩;clear t0 t1 c4 c5 x4 g5 g6;go_wp2
 go_end0
 exact⟨rfl,by(try rw[j]);exact vp.out.trans ((vc.out.trans (q.h.mono vc.out.size)).mono (nx ur))⟩
theorem xU {c:bh}{p:Pg}{L:bh}{f0 f1 f2 f3 f4 f5 f6:cA}{sA:cG fS}{sC:bh}{S:bj Fd}{d:Fd}(x:mm)(y nm:bm)(z:cG fS)(e A:bh)(g j:aw)(w:World)(h:Ck c p L f0 f1 f2 f3 f4 f5 f6 sA sC S w)(hl:j3 S nm=tG d)(hp:d.ty.1=tP):
  ge am 268 #[tW (tG ⟨c,0,tM⟩),ub #[Z U 9,ua x,tS y,tS nm,tU z e A,tU tM 0 0,tU tM 0 0,Z U g,Z U j]] w λe w'=>e= ud (.tuple #[])/\aE w.heap.size w w':=by
 obtain⟨N,o⟩:=zE w.heap.size;obtain⟨W1,q⟩:=zE (w.alloc (uc #[Z U 9,ua x,tS y,tS nm,tU z e A,tU tM 0 0,tU tM 0 0,Z U g,Z U j] 282));have E:=iR q o;have t:W1.heap[N]?=tG (uc #[Z U 9,ua x,tS y,tS nm,tU z e A,tU tM 0 0,tU tM 0 0,Z U g,Z U j] 282 (0,0)):=by rw[<-q,<-o];exact alloc_at _ _
 have ur:=aa t;have G:=h.grow (by rw[o];exact E);obtain⟨⟨a0,a1,a2,a3,a4,a5,a6,a7,a8⟩,_,ws⟩:=fV t;have vh:cj (zP 214 #[tW (tG ⟨c,0,tM⟩),tS nm] W1 (.tuple #[ub #[ua tP,tS d.ty.2],ua tP])):=by
  have:=kJ nm W1 G;unfold qa at this;rw[hl] at this;rw[show Fy (tG d)=d.ty from rfl,hp] at this;exact this
 have uv:cj (∀f W,aE W1.heap.size W1 W->zP 176 #[tW (tG ⟨c,0,tM⟩),ua tP,Z U f,ub #[Z U g,Z U j]] W (ua tP)):=λf W hW=>bX f g j W (G.grow hW);have hst:∀(w:World)(c:eA cA),c.size=2->(dt ⟨w.heap.size,0,tM⟩ [ua tP,tS d.ty.2] 0).run am (w.alloc (uc c 32))= .ok () (w.alloc (uc #[ua tP,tS d.ty.2] 32)):=λw c hc=>
  cx (P:=am) w 32 c #[ua tP,tS d.ty.2] (by show _=tG 2;kernel_rfl) hc (by simp[ct])
 have vm:=zH hst;have vp:=zH q;have vq:=zH E;have vr:=zH t;clear h hl hp q E t G hst;go_enter func268,ntmps268
 go_upto_region 1 with(fail)
 rw[vp.out]
 go_upto_region 10 with(go_at_call 214;refine vh.out.mono ?_;rintro e w2 ⟨rfl,ux⟩;have vt:=zH ux;have vu:=vm.out w2;clear ux)
 clear vu;obtain⟨T,J⟩:=zE w2.heap.size;obtain⟨W3,u⟩:=zE (w2.alloc (uc #[ua tP,tS d.ty.2] 32));rw[J,u];have v:=zD u vt;have K:W3.heap[T]?=tG (uc #[ua tP,tS d.ty.2] 32 (0,0)):=by rw[<-u,<-J];exact alloc_at _ _
 have vx:=aa K;have R:=(v.block N ur).trans vr.out;obtain⟨⟨a0,a1,a2,a3,a4,a5,a6,a7,a8⟩,_,vy⟩:=fV R;have vc:=zH v;have we:=zH K;have wg:=zH R;have wj:=zH (uv.out 5 W3 v);clear J u v K R
 go_upto_region 11 with(go_at_call 176;refine wj.out.mono ?_;rintro e w4 ⟨rfl,ue⟩;have up:=zH (vc.out.trans (ue.mono vc.out.size));have vd:=zH ue;clear ue)
 obtain⟨⟨a0,a1,a2,a3,a4,a5,a6,a7,a8⟩,_,xf⟩:=fV ((vd.out.block N vy).trans wg.out);obtain⟨⟨t0,t1⟩,_,xj⟩:=dz ((vd.out.block T vx).trans we.out);have wk:=zH (uv.out 7 w4 up.out)
 go_wp2_with (go_at_call 176;refine wk.out.mono ?_;rintro e w5 ⟨rfl,vf⟩;have wl:=zH (up.out.trans (vf.mono up.out.size));clear vf)
 go_end0
 exact⟨rfl,by(try rw[o]);exact vq.out.trans (wl.out.mono (nx ur))⟩
theorem oM {c:bh}{p:Pg}{L:bh}{f0 f1 f2 f3 f4 f5 f6:cA}{sA:cG fS}{sC:bh}{S:bj Fd}(f:aw)(J:f=8\/f=9)(j:mm)(o nm:bm)(q:cG fS)(d t:bh)(u v:aw)(w:World)(h:Ck c p L f0 f1 f2 f3 f4 f5 f6 sA sC S w)
  (A:∀W,aE w.heap.size w W->ge am 268 #[tW (tG ⟨c,0,tM⟩),ub #[Z U f,ua j,tS o,tS nm,tU q d t,tU tM 0 0,tU tM 0 0,Z U u,Z U v]] W λd w'=>d= ud (.tuple #[])/\aE W.heap.size W w'):
  ge am 244 #[tW (tG ⟨c,0,tM⟩),ub #[Z U f,ua j,tS o,tS nm,tU q d t,tU tM 0 0,tU tM 0 0,Z U u,Z U v]] w λd w'=>d= ud (.tuple #[])/\aE w.heap.size w w':=by
 obtain⟨N,g⟩:=zE w.heap.size;obtain⟨W1,x⟩:=zE (w.alloc (uc #[Z U f,ua j,tS o,tS nm,tU q d t,tU tM 0 0,tU tM 0 0,Z U u,Z U v] 282));have y:=iR x g;have z:W1.heap[N]?=tG (uc #[Z U f,ua j,tS o,tS nm,tU q d t,tU tM 0 0,tU tM 0 0,Z U u,Z U v] 282 (0,0)):=by rw[<-x,<-g];exact alloc_at _ _
 have K:=aa z;have E:=h.grow (by rw[g];exact y);have R:=zH (dM W1 E);have ue:=zH (A W1 (by rw[g];exact y));obtain⟨⟨a0,a1,a2,a3,a4,a5,a6,a7,a8⟩,_,ux⟩:=fV z;have up:=zH x;have ur:=zH y;clear h A x y z E;rcases J with rfl|rfl<;>(
  go_enter func244,ntmps244
  go_upto_region 1 with(fail)
  rw[up.out]
  go_wp2_with (first
   |(go_at_call 178;refine R.out.mono ?_;rintro e W1 ⟨rfl,rfl⟩)
   |(go_at_call 268;refine ue.out.mono ?_;rintro e w2 ⟨rfl,G⟩;have uv:=zH G;clear G))
  go_end0
  exact⟨rfl,by(try rw[g]);exact ur.out.trans (uv.out.mono (nx K))⟩)
theorem sM {α:Type}{f:α->bj cA}{m:bh}(e:0<m)(d:∀x,(f x).length=m):∀(l:bj α)(j:bh)(u:cA),(l.flatMap f)[j]?=tG u->∃k q x,l[k]?=tG x/\(f x)[q]?=tG u/\j=k*m+q
 |[],j,u,h=>by simp at h
 |y::l,j,u,h=>by
  rw[fW] at h
  by_cases g:j<m
  ·rw[mB (by rw[d];exact g)] at h
   exact⟨0,j,y,rfl,h,by omega⟩
  ·rw[hZ (by rw[d];omega),d] at h
   obtain⟨k,q,x,o,t,v⟩:=sM e d l (j-m) u h;exact⟨k+1,q,x,by simpa using o,t,by rw[sq];omega⟩
theorem mr {α:Type}{f:α->bj cA}{m:bh}(d:∀x,(f x).length=m):∀l:bj α,(l.flatMap f).length=l.length*m
 |[]=>by simp
 |y::l=>by rw[fW,bo,d,mr d l,eV,sq,rl]
theorem Ce (S:bj Fd):∀u∈S.flatMap uA,u.oneCell'=tP:=by
 intro u d;obtain⟨f,_,e⟩:=kq.1 d
 revert e;unfold uA Fd.cells
 simp;rintro(rfl|rfl|rfl|rfl|rfl)<;>rfl
def Ed (c:bh)(p:Pg)(L:bh)(f0 f1 f2 f3 f4 f5 f6:cA)(S:bj Fd)(w w':World):Prop:=∃sA sC,Ck c p L f0 f1 f2 f3 f4 f5 f6 sA sC S w'/\Ext (·=c) w w'
theorem mD {W:World}{g:bh}{d e f h j o q v x a9 y z A E G u:cA}{t:gt}(J:W.heap[g]?=tG (uc #[d,e,f,h,j,o,q,v,x,a9,y,z,A,E,G] t (0,0))):
  (W.setCell ⟨g,9,tM⟩ u).heap[g]?=tG (uc #[d,e,f,h,j,o,q,v,x,u,y,z,A,E,G] t (0,0)):=bk _ g 9 _ _ u J
theorem zJ {c:bh}{p:Pg}{L:bh}{f0 f1 f2 f3 f4 f5 f6:cA}{y:Ty}{sA:cG fS}{sC:bh}{S:bj Fd}{e:Ex}{g cp:bh}(nm:bm)(ln cl:aw)(w:World)(h:Ck c p L f0 f1 f2 f3 f4 f5 f6 sA sC S w)(hy:Fz p S e y)(Bs:y=(tP,p.snm))(By:j3 S nm=tM)(E3:S.length<=900000)(hg:Ec w g e):
  ge am 244 #[tW (tG ⟨c,0,tM⟩),ub #[Z U 1,ua y.1,tS y.2,tS nm,tU (tG ⟨g,0,tM⟩) 1 cp,tU tM 0 0,tU tM 0 0,Z U ln,Z U cl]] w λen w'=>en= ud (.tuple #[])/\Ed c p L f0 f1 f2 f3 f4 f5 f6 (S++[⟨nm,y.1,y.2,0,0⟩]) w w':=by
 obtain⟨N,hN⟩:=zE w.heap.size;obtain⟨W1,zp⟩:=zE (w.alloc (uc #[Z U 1,ua y.1,tS y.2,tS nm,tU (tG ⟨g,0,tM⟩) 1 cp,tU tM 0 0,tU tM 0 0,Z U ln,Z U cl] 282));have zs:=iR zp hN;have zv:W1.heap[N]?=tG (uc #[Z U 1,ua y.1,tS y.2,tS nm,tU (tG ⟨g,0,tM⟩) 1 cp,tU tM 0 0,tU tM 0 0,Z U ln,Z U cl] 282 (0,0)):=by rw[<-zp,<-hN];exact alloc_at _ _
 have vr:=aa zv;have h1:=h.grow (by rw[hN];exact zs);have AK:=hg.grow (by rw[hN];exact zs);have E4:=AK.1;have E6:c<N:=by rw[<-hN];exact aa h.row
 have Dd:=zH (dM W1 h1);have hst:∀(w:World)(c:eA cA),c.size=2->(dt ⟨w.heap.size,0,tM⟩ [ua y.1,tS y.2] 0).run am (w.alloc (uc c 32))= .ok () (w.alloc (uc #[ua y.1,tS y.2] 32)):=λw c hc=>
  cx (P:=am) w 32 c #[ua y.1,tS y.2] (by show _=tG 2;kernel_rfl) hc (by simp[ct])
 have BE:∀(w:World)(c:eA cA),c.size=2->(dt ⟨w.heap.size,0,tM⟩ [ua tR,tS ⟨#[]⟩] 0).run am (w.alloc (uc c 32))= .ok () (w.alloc (uc #[ua tR,tS ⟨#[]⟩] 32)):=λw c hc=>
  cx (P:=am) w 32 c #[ua tR,tS ⟨#[]⟩] (by show _=tG 2;kernel_rfl) hc (by simp[ct])
 have Dg:=zH hst;have Do:=zH BE;have Ds:cj (∀q:BW W1,zP 213 #[tW (tG ⟨c,0,tM⟩),ub #[ua y.1,tS y.2]] q.w (ua tP)):=λq=>by
  rw[Bs];exact qF p.snm q.w (h1.grow q.h) rfl
 have DA:cj (∀q:BW W1,zP 176 #[tW (tG ⟨c,0,tM⟩),ua tP,Z U 5,ub #[Z U ln,Z U cl]] q.w (ua tP)):=λq=>bX 5 ln cl q.w (h1.grow q.h);have AM:∀W,aE W1.heap.size W1 W->ge am 265 #[tW (tG ⟨c,0,tM⟩),ub e.cells] W λen w'=>en= ud (ub #[ua y.1,tS y.2])/\aE W.heap.size W w':=λW hW=>oL W (h1.grow hW) hy;unfold Ex.cells at AM;have DB:=zH AM;have DE:cj (∀W,aE W1.heap.size W1 W->zP 214 #[tW (tG ⟨c,0,tM⟩),tS nm] W (.tuple #[ub #[ua tR,tS ⟨#[]⟩],ua tR])):=λW hW=>by
  have:=kJ nm W (h1.grow hW);unfold qa at this;rw[By] at this;exact this
 have BT:cj (∀f a b W,aE W1.heap.size W1 W->zP 176 #[tW (tG ⟨c,0,tM⟩),ua tP,Z U f,ub #[Z U a,Z U b]] W (ua tP)):=λf a b W hW=>bX f a b W (h1.grow hW);obtain⟨⟨a0,a1,a2,a3,a4,a5,a6,a7,a8⟩,_,E7⟩:=fV zv;have H1:=zH h1;have BY:=zH AK;have DG:=zH zp;have AN:=zH zs;have vt:=zH zv;have AS:=h.hc;obtain⟨i0,xj,xo,xp,xt⟩:=kB Dw;clear h hy Bs By hg zp zs zv h1 AK hst BE AM;go_enter func244,ntmps244
 go_upto_region 1 with(fail)
 rw[DG.out]
 go_upto_region 5 with(go_at_call 178;refine Dd.out.mono ?_;rintro e W1 ⟨rfl,rfl⟩)
 clear a0 a1 a2 a3 a4 a5 a6 a7 a8;have x1:∀q:BW W1,q.w.cell? ⟨N,1,tM⟩=tG (ua y.1):=λq=>(rowAt ((q.h.block N vr).trans vt.out) 1 rfl).1;have x2:∀q:BW W1,q.w.cell? ⟨N,2,tM⟩=tG (tS y.2):=λq=>(rowAt ((q.h.block N vr).trans vt.out) 2 rfl).1;have x7:∀q:BW W1,q.w.cell? ⟨N,7,tM⟩=tG (Z U ln):=λq=>(rowAt ((q.h.block N vr).trans vt.out) 7 rfl).1;have x8:∀q:BW W1,q.w.cell? ⟨N,8,tM⟩=tG (Z U cl):=λq=>(rowAt ((q.h.block N vr).trans vt.out) 8 rfl).1
 go_cut [3] (λs wc=>s= tW (tG ⟨N,0,tM⟩)/\aE W1.heap.size W1 wc)
 case first=>
  refine zQ ?_
  repeat (go_big_quiet_step (first
   |(go_at_call 213;exact bE (Ds.out _))
   |(go_at_call 176;exact bE (DA.out _))))
  refine dj ?_;rintro _ ⟨q,rfl⟩;have o:=q.h;go_wp2
  go_meet
  case rel=>exact⟨rfl,o⟩
 case rest=>
  obtain⟨rfl,J⟩:=hcut;clear x1 x2 x7 x8;have vp:=BY.out.grow J;have B5:=(J.block N vr).trans vt.out;obtain⟨⟨a0,a1,a2,a3,a4,a5,a6,a7,a8⟩,_,Fc⟩:=fV B5;have e0:=vp.2 0 _ rfl;have e1:=vp.2 1 _ rfl;have e2:=vp.2 2 _ rfl;have e3:=vp.2 3 _ rfl;have e4:=vp.2 4 _ rfl;have e5:=vp.2 5 _ rfl;have e6:=vp.2 6 _ rfl;have Fi:=vp.1;have DH:=zH (DB.out wc J);have B6:=zH J;clear vp B5 J
  go_upto_region 7 with(go_at_call 265;refine DH.out.mono ?_;rintro en w5 ⟨rfl,B7⟩;have DM:=zH (B6.out.trans (B7.mono B6.out.size));have DO:=Dg.out w5;clear B7)
  clear DO;obtain⟨T,hT⟩:=zE w5.heap.size;obtain⟨W6,An⟩:=zE (w5.alloc (uc #[ua y.1,tS y.2] 32));rw[hT,An];have xF:=zD An DM;have At:W6.heap[T]?=tG (uc #[ua y.1,tS y.2] 32 (0,0)):=by rw[<-An,<-hT];exact alloc_at _ _
  have B8:=aa At;have AT:=BY.out.grow xF;have xT:=(xF.block N vr).trans vt.out;have Ax:=aa xT;have t0:∀q:BW W6,q.w.cell? ⟨T,0,tM⟩=tG (ua y.1):=λq=>(rowAt ((q.h.block T B8).trans At) 0 rfl).1;have t1:∀q:BW W6,q.w.cell? ⟨T,1,tM⟩=tG (tS y.2):=λq=>(rowAt ((q.h.block T B8).trans At) 1 rfl).1;have x1:∀q:BW W6,q.w.cell? ⟨N,1,tM⟩=tG (ua y.1):=λq=>(rowAt ((q.h.block N Ax).trans xT) 1 rfl).1;have x2:∀q:BW W6,q.w.cell? ⟨N,2,tM⟩=tG (tS y.2):=λq=>(rowAt ((q.h.block N Ax).trans xT) 2 rfl).1;have x4:∀q:BW W6,q.w.cell? ⟨N,4,tM⟩=tG (tU (tG ⟨g,0,tM⟩) 1 cp):=λq=>(rowAt ((q.h.block N Ax).trans xT) 4 rfl).1;have g5:∀q:BW W6,q.w.cell? ⟨g,5,tM⟩=tG (Z U e.ln):=λq=>(AT.grow q.h).2 5 _ rfl;have g6:∀q:BW W6,q.w.cell? ⟨g,6,tM⟩=tG (Z U e.cl):=λq=>(AT.grow q.h).2 6 _ rfl;have DP:cj (∀q:BW W6,zP 176 #[tW (tG ⟨c,0,tM⟩),ua tP,Z U 7,ub #[Z U e.ln,Z U e.cl]] q.w (ua tP)):=λq=>BT.out 7 e.ln e.cl q.w (xF.trans (q.h.mono xF.size));have B9:=zH xF;have DQ:=zH xT;clear hT An xF At AT xT a0 a1 a2 a3 a4 a5 a6 a7 a8 e0 e1 e2 e3 e4 e5 e6
  go_cut [3] (λs wd=>s= tW (tG ⟨N,0,tM⟩)/\aE W6.heap.size W6 wd)
  case first=>
   refine zQ ?_
   repeat (go_big_quiet_step (first
    |(go_at_call 266;exact bE (qE _ _ _))
    |(go_at_call 176;exact bE (DP.out _))))
   refine dj ?_;rintro _ ⟨q,rfl⟩;have o:=q.h;clear t0 t1 x1 x2 x4 g5 g6;go_wp2
   go_meet
   case rel=>exact⟨rfl,o⟩
  case rest=>
   clear t0 t1 x1 x2 x4 g5 g6;obtain⟨rfl,AW⟩:=hcut;have A0:=B9.out.trans (AW.mono B9.out.size);have A1:=(AW.block N Ax).trans DQ.out;obtain⟨⟨a0,a1,a2,a3,a4,a5,a6,a7,a8⟩,_,Fk⟩:=fV A1;have DS:=zH (DE.out _ A0);have Cd:=zH A0;have Fl:=zH A1;clear AW A0 A1
   go_upto_region 9 with(go_at_call 214;refine DS.out.mono ?_;rintro en w7 ⟨rfl,Cl⟩;have D0:=zH (Cd.out.trans (Cl.mono Cd.out.size));have D1:=Do.out w7;clear Cl)
   clear D1;obtain⟨W8,A2⟩:=zE (w7.alloc (uc #[ua tR,tS ⟨#[]⟩] 32));rw[A2];have AD:=zD A2 D0;have Cp:=(AD.block N vr).trans vt.out;obtain⟨⟨a0,a1,a2,a3,a4,a5,a6,a7,a8⟩,_,Fm⟩:=fV Cp;have D2:=zH (BT.out 6 ln cl W8 AD);have CA:=zH AD;clear A2 AD Cp
   go_upto_region 10 with(go_at_call 176;refine D2.out.mono ?_;rintro en v ⟨rfl,CC⟩;have vu:=zH (CA.out.trans (CC.mono CA.out.size));clear CC)
   have hD:=H1.out.grow vu.out;have A3:=(vu.out.block N vr).trans vt.out;obtain⟨B,hB⟩:=zE v.heap.size;have D3:N<B:=by rw[<-hB];exact aa A3
   have AE:c<B:=by omega
   obtain⟨ST,CD⟩:=zE ((λw'=>aE B v w'):World->Prop);have AF:∀w,ST w↔aE B v w:=λw=>by rw[<-CD]
   have ur:=zH AF;have AH:=zH hD.row;have D4:=zH A3;have CH:=zH hD.seen;have CM:∀w,ST w->w.cell? ⟨c,9,tM⟩=tG (tU sA S.length sC)/\w.cell? ⟨N,3,tM⟩=tG (tS nm)/\w.cell? ⟨N,1,tM⟩=tG (ua y.1)/\w.cell? ⟨N,2,tM⟩=tG (tS y.2)/\c<w.heap.size/\w.frozen? ⟨c,9,tM⟩=tR:=λw hw=>by
    have hb:=(AF w).1 hw;have r1:=(hb.block c AE).trans AH.out;have r2:=(hb.block N D3).trans D4.out;exact⟨(rowAt r1 9 rfl).1,(rowAt r2 3 rfl).1,(rowAt r2 1 rfl).1,(rowAt r2 2 rfl).1,aa r1,(rowAt r1 9 rfl).2⟩
   have A:=zH CM;obtain⟨wE,A4⟩:=zE v.drew;have Ek:ST wE:=(AF _).2 (by rw[<-A4,<-hB];exact(aq _ _).drew);have HD:=zH hD;have z:=zH hB;clear CD AF CM hD A3 hB a0 a1 a2 a3 a4 a5 a6 a7 a8;have yb:cj (∀w,ST w->(sA=tM->S.length=0)/\∀ad,sA=tG ad->∀j u,(S.flatMap uA)[j]?=tG u->w.cell? (ad.add j)=tG u):=λw hw=>by
    have hb:=(ur.out w).1 hw;constructor
    ·intro A5
     rcases Nat.eq_zero_or_pos S.length with h|h
     ·exact h
     ·obtain⟨b,CN,h1,_⟩:=CH.out (ms.1 h)
      rw[A5] at h1;cases h1
    ·intro ad A5 j u hu
     have EV:S≠[]:=by intro e;rw[e] at hu;simp at hu
     obtain⟨b,CN,h1,h2,h3⟩:=CH.out EV;rw[A5] at h1;obtain rfl:=cE h1;obtain⟨k,q,x,hx,o,rfl⟩:=sM (f:=uA) (m:=5) (by decide) (λ_=>rfl) S j u hu;rw[cY,hb.cell (p:=⟨b,CN+(k*5+q),tM⟩) (by show b<B;rw[<-z.out];exact h2),<-Nat.add_assoc];exact h3 k x hx q u o
   refine aj 16 ST (by kernel_rfl) ?_;rw[A4];clear A4;refine zT 0 rfl A.out ?_
   try go_simp
   refine zT 2 rfl A.out ?_
   try go_simp
   refine zT 3 rfl A.out ?_
   try go_simp
   refine zT 4 rfl A.out ?_
   try go_simp
   refine zT 5 rfl A.out ?_
   try go_simp
   refine zT 7 rfl A.out ?_
   try go_simp
   refine zT 8 rfl A.out ?_
   try go_simp
   refine zT 9 rfl A.out ?_
   try go_simp
   refine zT 10 rfl A.out ?_
   try go_simp
   refine zT 11 rfl A.out ?_
   try go_simp
   have yd:aE B v wE:=(ur.out _).1 Ek;refine lF (i:=1) (j:=12) (by kernel_rfl) (by decide) (by decide) rfl rfl (λK' d=> ?_) (λK' d=> ?_)
   ·rw[cI (by rfl)]
    go_simp;obtain⟨Wa,vf⟩:=zE (wE.alloc (uc #[] 92));obtain⟨R,uv⟩:=zE wE.heap.size;have ye:aE B v Wa:=by rw[<-vf];exact yd.alloc (by have:=yd.size;rw[z.out] at this;exact this) _
    have vq:=ye;have wl:ST Wa:=(ur.out _).2 ye;have A6:B<=R:=by rw[<-uv];have:=yd.size;rw[z.out] at this;exact this
    have Bk:cj (Wa.heap.size=R+1):=by unfold cj;rw[<-vf];simp[uv]
    have AI:Wa.ownsRow B 92 5 (tU (tG ⟨R,0,tM⟩) 0 0) 0 []:=by rw[<-vf,<-uv];exact jR _ _ _ _ (by rw[uv];exact A6)
    try rw[vf]
    try rw[uv]
    refine d _ _ wl ?_;clear d
    try go_simp
    refine lF (i:=6) (j:=12) (by kernel_rfl) (by decide) (by decide) rfl rfl (λK' d=> ?_) (λK' d=> ?_)
    ·rw[cI (by rfl)]
     refine aI (.tmp 64) (.tmp 68) 88 rfl B 92 i0 _ 5 56 iu xj xo xp xt rfl (by decide) (tU (tG ⟨R,0,tM⟩) 0 0) 0 [] rfl AI sA S.length sC (S.flatMap uA) rfl (mr (f:=uA) (λ_=>rfl) S) (yb.out _ wl).1 (yb.out _ wl).2 (Ce S) (by unfold eC;omega) (by omega) (by have:=vq.size;rw[z.out] at this;exact this) ?_;intro vb Wb vh ws CT;have vx:aE B v Wb:=vq.trans ((Ext.of_grown (M:=λq=>tG R=tG q) ws (λq o=> .inl o)).below (by have:=vq.size;rw[z.out] at this;exact this) (λq o=>by have:=cE o;omega));have vm:=vx;have yi:ST Wb:=(ur.out _).2 vx;rw[cL,fN] at vh;refine d _ _ yi ?_;clear d
     try go_simp
     refine zO 12 rfl λK' d=> ?_;go_simp;obtain⟨E,ue⟩:=zE (Wb.alloc (uc #[tS nm,ua y.1,tS y.2,Z U 0,Z U 0] 92));obtain⟨G,J⟩:=zE Wb.heap.size;have vy:aE B v E:=by rw[<-ue];exact vm.alloc (by have:=vm.size;rw[z.out] at this;exact this) _
     have ux:=vy;have xf:ST E:=(ur.out _).2 vy;have yk:cj (E.heap.size=G+1):=by unfold cj;rw[<-ue];simp[J]
     have yp:E.heap[G]?=tG (uc #[tS nm,ua y.1,tS y.2,Z U 0,Z U 0] 92 (0,0)):=by rw[<-ue,<-J];exact alloc_at _ _
     try rw[ue]
     try rw[J]
     refine d _ _ xf ?_;clear d
     try go_simp
     have C4:E.ownsRow B 92 5 vb S.length (S.flatMap uA):=by rw[<-ue];exact ownsRow_below vh ((aq _ _).alloc (cg _) _)
     refine zO 13 rfl λK' d=> ?_;refine aI (.tmp 69) (.tmp 75) 88 rfl B 92 i0 _ 5 56 iu xj xo xp xt rfl (by decide) vb S.length (S.flatMap uA) rfl C4 (tG ⟨G,0,tM⟩) 1 1 [tS nm,ua y.1,tS y.2,Z U 0,Z U 0] rfl rfl (λh=>by cases h) (λad yq jj uu hu=>by
      obtain rfl:(⟨G,0,tM⟩:fS)=ad:=by simpa using yq
      rw[cY,cL,bw _ _ _ _ _ _ yp];simpa using hu) (by simp[ct]) (by unfold eC;omega) (by omega) (by have:=ux.size;rw[z.out] at this;exact this) ?_
     intro vz t we yr C5;obtain⟨K,cz,yv,C6,C7⟩:=fZ we;subst yv;have up:aE B v t:=ux.trans ((Ext.of_grown (M:=λq=>vb.ownBlock=tG q) yr (λq o=> .inl o)).below (by have:=ux.size;rw[z.out] at this;exact this) (λq o=>(ai C4 o).1));have wg:ST t:=(ur.out _).2 up;refine d _ _ wg ?_;clear d
     try go_simp
     refine zT 14 rfl A.out ?_
     try go_simp
     refine zT 15 rfl A.out ?_
     try go_simp
     obtain⟨s1,s2,s3,s4,s5,s6⟩:=A.out t wg;refine zK rfl λK' d=> ?_;go_simp;refine d _ _ ?_;clear d;refine⟨by kernel_rfl, ?_⟩;have yy:=(up.block c AE).trans AH.out;have wj:Ed c p L f0 f1 f2 f3 f4 f5 f6 (S++[⟨nm,y.1,y.2,0,0⟩]) w (t.setCell ⟨c,9,tM⟩ (tU (tG ⟨K,0,tM⟩) (S.length+1) cz)):=by
      have vc:Ext (·=c) t (t.setCell ⟨c,9,tM⟩ (tU (tG ⟨K,0,tM⟩) (S.length+1) cz)):=Ext.set1 t c 9 _;have vd:(S++[(⟨nm,y.1,y.2,0,0⟩:Fd)]).length=S.length+1:=by rw[bo];rfl
      have yW:=(HD.out.pg.ext (Ext.of_below_size (M:=λ_=>me) (show aE v.heap.size v t by rw[z.out];exact up)) (λ_ _ h=>h)).ext vc (λk hk e=>by omega);have wk:t.ownsRow B 92 5 (tU (tG ⟨K,0,tM⟩) (S.length+1) cz) (S.length+1) ((S++[(⟨nm,y.1,y.2,0,0⟩:Fd)]).flatMap uA):=by rw[gn];exact we
      have zc:=ah wk vc (λq o e=>by have:=(ai wk o).1;omega);refine⟨tG ⟨K,0,tM⟩,cz,⟨?_,yW,AS, ?_,by rw[vd];omega, ?_⟩, ?_⟩
      ·rw[vd];exact mD yy
      ·exact fH (cells:=Fd.cells) (m:=5) (λ_=>rfl) zc vd.symm
      ·intro a _ ha e
       obtain rfl:=cE ha;have:K=c:=e;omega
      ·exact((Ext.of_below_size (M:=(·=c)) (show aE w.heap.size w W1 by rw[hN];exact AN.out)).trans (Ext.of_below_size (M:=(·=c)) (vu.out.trans ((show aE v.heap.size v t by rw[z.out];exact up).mono vu.out.size))) (λk hk=> .inl hk)).trans vc (λk hk=> .inl hk)
     have zj:=zH wj;clear wj;go_wp2
     go_end0
     exact⟨rfl,zj.out⟩
    ·rw[cI (by rfl)]
     go_simp;obtain⟨E,ue⟩:=zE (Wa.alloc (uc #[tS nm,ua y.1,tS y.2,Z U 0,Z U 0] 92));obtain⟨G,J⟩:=zE Wa.heap.size;have vy:aE B v E:=by rw[<-ue];exact vq.alloc (by have:=vq.size;rw[z.out] at this;exact this) _
     have ux:=vy;have xf:ST E:=(ur.out _).2 vy;have yk:cj (E.heap.size=G+1):=by unfold cj;rw[<-ue];simp[J]
     have yp:E.heap[G]?=tG (uc #[tS nm,ua y.1,tS y.2,Z U 0,Z U 0] 92 (0,0)):=by rw[<-ue,<-J];exact alloc_at _ _
     try rw[ue]
     try rw[J]
     refine d _ _ xf ?_;clear d
     try go_simp
     have E0:E.ownsRow B 92 5 (tU (tG ⟨R,0,tM⟩) 0 0) 0 []:=by rw[<-ue];exact ownsRow_below AI ((aq _ _).alloc (cg _) _)
     refine zO 6 rfl λK' d=> ?_;refine aI (.tmp 64) (.tmp 68) 88 rfl B 92 i0 _ 5 56 iu xj xo xp xt rfl (by decide) (tU (tG ⟨R,0,tM⟩) 0 0) 0 [] rfl E0 sA S.length sC (S.flatMap uA) rfl (mr (f:=uA) (λ_=>rfl) S) (yb.out _ xf).1 (yb.out _ xf).2 (Ce S) (by unfold eC;omega) (by omega) (by have:=ux.size;rw[z.out] at this;exact this) ?_;intro vb Wb vh ws CT;have vx:aE B v Wb:=ux.trans ((Ext.of_grown (M:=λq=>tG R=tG q) ws (λq o=> .inl o)).below (by have:=ux.size;rw[z.out] at this;exact this) (λq o=>by have:=cE o;omega));have vm:=vx;have yi:ST Wb:=(ur.out _).2 vx;rw[cL,fN] at vh;refine d _ _ yi ?_;clear d
     try go_simp
     have Bm:Wb.heap[G]?=tG (uc #[tS nm,ua y.1,tS y.2,Z U 0,Z U 0] 92 (0,0)):=(Ext.of_grown (M:=λq=>tG R=tG q) ws (λq o=> .inl o)).heap yp (by intro h;have:=cE h;have:=Bk.out;have:=yk.out;omega);refine zO 13 rfl λK' d=> ?_;refine aI (.tmp 69) (.tmp 75) 88 rfl B 92 i0 _ 5 56 iu xj xo xp xt rfl (by decide) vb S.length (S.flatMap uA) rfl vh (tG ⟨G,0,tM⟩) 1 1 [tS nm,ua y.1,tS y.2,Z U 0,Z U 0] rfl rfl (λh=>by cases h) (λad yq jj uu hu=>by
      obtain rfl:(⟨G,0,tM⟩:fS)=ad:=by simpa using yq
      rw[cY,cL,bw _ _ _ _ _ _ Bm];simpa using hu) (by simp[ct]) (by unfold eC;omega) (by omega) (by have:=vm.size;rw[z.out] at this;exact this) ?_
     intro vz t we yr C5;obtain⟨K,cz,yv,C6,C7⟩:=fZ we;subst yv;have up:aE B v t:=vm.trans ((Ext.of_grown (M:=λq=>vb.ownBlock=tG q) yr (λq o=> .inl o)).below (by have:=vm.size;rw[z.out] at this;exact this) (λq o=>(ai vh o).1));have wg:ST t:=(ur.out _).2 up;refine d _ _ wg ?_;clear d
     try go_simp
     refine zT 14 rfl A.out ?_
     try go_simp
     refine zT 15 rfl A.out ?_
     try go_simp
     obtain⟨s1,s2,s3,s4,s5,s6⟩:=A.out t wg;refine zK rfl λK' d=> ?_;go_simp;refine d _ _ ?_;clear d;refine⟨by kernel_rfl, ?_⟩;have yy:=(up.block c AE).trans AH.out;have wj:Ed c p L f0 f1 f2 f3 f4 f5 f6 (S++[⟨nm,y.1,y.2,0,0⟩]) w (t.setCell ⟨c,9,tM⟩ (tU (tG ⟨K,0,tM⟩) (S.length+1) cz)):=by
      have vc:Ext (·=c) t (t.setCell ⟨c,9,tM⟩ (tU (tG ⟨K,0,tM⟩) (S.length+1) cz)):=Ext.set1 t c 9 _;have vd:(S++[(⟨nm,y.1,y.2,0,0⟩:Fd)]).length=S.length+1:=by rw[bo];rfl
      have yW:=(HD.out.pg.ext (Ext.of_below_size (M:=λ_=>me) (show aE v.heap.size v t by rw[z.out];exact up)) (λ_ _ h=>h)).ext vc (λk hk e=>by omega);have wk:t.ownsRow B 92 5 (tU (tG ⟨K,0,tM⟩) (S.length+1) cz) (S.length+1) ((S++[(⟨nm,y.1,y.2,0,0⟩:Fd)]).flatMap uA):=by rw[gn];exact we
      have zc:=ah wk vc (λq o e=>by have:=(ai wk o).1;omega);refine⟨tG ⟨K,0,tM⟩,cz,⟨?_,yW,AS, ?_,by rw[vd];omega, ?_⟩, ?_⟩
      ·rw[vd];exact mD yy
      ·exact fH (cells:=Fd.cells) (m:=5) (λ_=>rfl) zc vd.symm
      ·intro a _ ha e
       obtain rfl:=cE ha;have:K=c:=e;omega
      ·exact((Ext.of_below_size (M:=(·=c)) (show aE w.heap.size w W1 by rw[hN];exact AN.out)).trans (Ext.of_below_size (M:=(·=c)) (vu.out.trans ((show aE v.heap.size v t by rw[z.out];exact up).mono vu.out.size))) (λk hk=> .inl hk)).trans vc (λk hk=> .inl hk)
     have zj:=zH wj;clear wj;go_wp2
     go_end0
     exact⟨rfl,zj.out⟩
   ·rw[cI (by rfl)]
    go_simp;obtain⟨E,ue⟩:=zE (wE.alloc (uc #[tS nm,ua y.1,tS y.2,Z U 0,Z U 0] 92));obtain⟨G,J⟩:=zE wE.heap.size;have vy:aE B v E:=by rw[<-ue];exact yd.alloc (by have:=yd.size;rw[z.out] at this;exact this) _
    have ux:=vy;have xf:ST E:=(ur.out _).2 vy;have yk:cj (E.heap.size=G+1):=by unfold cj;rw[<-ue];simp[J]
    have yp:E.heap[G]?=tG (uc #[tS nm,ua y.1,tS y.2,Z U 0,Z U 0] 92 (0,0)):=by rw[<-ue,<-J];exact alloc_at _ _
    try rw[ue]
    try rw[J]
    refine d _ _ xf ?_;clear d
    try go_simp
    refine zO 1 rfl λK' d=> ?_;go_simp;obtain⟨Wa,vf⟩:=zE (E.alloc (uc #[] 92));obtain⟨R,uv⟩:=zE E.heap.size;have ye:aE B v Wa:=by rw[<-vf];exact ux.alloc (by have:=ux.size;rw[z.out] at this;exact this) _
    have vq:=ye;have wl:ST Wa:=(ur.out _).2 ye;have A6:B<=R:=by rw[<-uv];have:=ux.size;rw[z.out] at this;exact this
    have Bk:cj (Wa.heap.size=R+1):=by unfold cj;rw[<-vf];simp[uv]
    have AI:Wa.ownsRow B 92 5 (tU (tG ⟨R,0,tM⟩) 0 0) 0 []:=by rw[<-vf,<-uv];exact jR _ _ _ _ (by rw[uv];exact A6)
    try rw[vf]
    try rw[uv]
    refine d _ _ wl ?_;clear d
    try go_simp
    have E2:Wa.heap[G]?=tG (uc #[tS nm,ua y.1,tS y.2,Z U 0,Z U 0] 92 (0,0)):=by rw[<-vf];exact(cJ _ _ G (by have:=yk.out;omega)).trans yp
    refine zO 6 rfl λK' d=> ?_;refine aI (.tmp 64) (.tmp 68) 88 rfl B 92 i0 _ 5 56 iu xj xo xp xt rfl (by decide) (tU (tG ⟨R,0,tM⟩) 0 0) 0 [] rfl AI sA S.length sC (S.flatMap uA) rfl (mr (f:=uA) (λ_=>rfl) S) (yb.out _ wl).1 (yb.out _ wl).2 (Ce S) (by unfold eC;omega) (by omega) (by have:=vq.size;rw[z.out] at this;exact this) ?_;intro vb Wb vh ws CT;have vx:aE B v Wb:=vq.trans ((Ext.of_grown (M:=λq=>tG R=tG q) ws (λq o=> .inl o)).below (by have:=vq.size;rw[z.out] at this;exact this) (λq o=>by have:=cE o;omega));have vm:=vx;have yi:ST Wb:=(ur.out _).2 vx;rw[cL,fN] at vh;refine d _ _ yi ?_;clear d
    try go_simp
    have Bm:Wb.heap[G]?=tG (uc #[tS nm,ua y.1,tS y.2,Z U 0,Z U 0] 92 (0,0)):=(Ext.of_grown (M:=λq=>tG R=tG q) ws (λq o=> .inl o)).heap E2 (by intro h;have:=cE h;have:=Bk.out;have:=yk.out;omega);refine zO 13 rfl λK' d=> ?_;refine aI (.tmp 69) (.tmp 75) 88 rfl B 92 i0 _ 5 56 iu xj xo xp xt rfl (by decide) vb S.length (S.flatMap uA) rfl vh (tG ⟨G,0,tM⟩) 1 1 [tS nm,ua y.1,tS y.2,Z U 0,Z U 0] rfl rfl (λh=>by cases h) (λad yq jj uu hu=>by
     obtain rfl:(⟨G,0,tM⟩:fS)=ad:=by simpa using yq
     rw[cY,cL,bw _ _ _ _ _ _ Bm];simpa using hu) (by simp[ct]) (by unfold eC;omega) (by omega) (by have:=vm.size;rw[z.out] at this;exact this) ?_
    intro vz t we yr C5;obtain⟨K,cz,yv,C6,C7⟩:=fZ we;subst yv;have up:aE B v t:=vm.trans ((Ext.of_grown (M:=λq=>vb.ownBlock=tG q) yr (λq o=> .inl o)).below (by have:=vm.size;rw[z.out] at this;exact this) (λq o=>(ai vh o).1));have wg:ST t:=(ur.out _).2 up;refine d _ _ wg ?_;clear d
    try go_simp
    refine zT 14 rfl A.out ?_
    try go_simp
    refine zT 15 rfl A.out ?_
    try go_simp
    obtain⟨s1,s2,s3,s4,s5,s6⟩:=A.out t wg;refine zK rfl λK' d=> ?_;go_simp;refine d _ _ ?_;clear d;refine⟨by kernel_rfl, ?_⟩;have yy:=(up.block c AE).trans AH.out;have wj:Ed c p L f0 f1 f2 f3 f4 f5 f6 (S++[⟨nm,y.1,y.2,0,0⟩]) w (t.setCell ⟨c,9,tM⟩ (tU (tG ⟨K,0,tM⟩) (S.length+1) cz)):=by
     have vc:Ext (·=c) t (t.setCell ⟨c,9,tM⟩ (tU (tG ⟨K,0,tM⟩) (S.length+1) cz)):=Ext.set1 t c 9 _;have vd:(S++[(⟨nm,y.1,y.2,0,0⟩:Fd)]).length=S.length+1:=by rw[bo];rfl
     have yW:=(HD.out.pg.ext (Ext.of_below_size (M:=λ_=>me) (show aE v.heap.size v t by rw[z.out];exact up)) (λ_ _ h=>h)).ext vc (λk hk e=>by omega);have wk:t.ownsRow B 92 5 (tU (tG ⟨K,0,tM⟩) (S.length+1) cz) (S.length+1) ((S++[(⟨nm,y.1,y.2,0,0⟩:Fd)]).flatMap uA):=by rw[gn];exact we
     have zc:=ah wk vc (λq o e=>by have:=(ai wk o).1;omega);refine⟨tG ⟨K,0,tM⟩,cz,⟨?_,yW,AS, ?_,by rw[vd];omega, ?_⟩, ?_⟩
     ·rw[vd];exact mD yy
     ·exact fH (cells:=Fd.cells) (m:=5) (λ_=>rfl) zc vd.symm
     ·intro a _ ha e
      obtain rfl:=cE ha;have:K=c:=e;omega
     ·exact((Ext.of_below_size (M:=(·=c)) (show aE w.heap.size w W1 by rw[hN];exact AN.out)).trans (Ext.of_below_size (M:=(·=c)) (vu.out.trans ((show aE v.heap.size v t by rw[z.out];exact up).mono vu.out.size))) (λk hk=> .inl hk)).trans vc (λk hk=> .inl hk)
    have zj:=zH wj;clear wj;go_wp2
    go_end0
    exact⟨rfl,zj.out⟩
def qb (p:Pg)(y:Ty)(S:bj Fd)(s:Sm)(d:bj Fd):Prop:=
 (s.kind=8/\∃e,s.es=[e]/\Fz p S e y/\d=S)\/(s.kind=9/\∃f,j3 S s.nm=tG f/\f.ty.1=tP/\d=S)\/
 (s.kind=1/\∃e,s.es=[e]/\Fz p S e s.ty/\s.ty=(tP,p.snm)/\j3 S s.nm=tM/\d=S++[⟨s.nm,s.ty.1,s.ty.2,0,0⟩])
theorem Ck.mv {c:bh}{p:Pg}{L:bh}{f0 f1 f2 f3 f4 f5 f6:cA}{sA:cG fS}{sC:bh}{S:bj Fd}{w w':World}(h:Ck c p L f0 f1 f2 f3 f4 f5 f6 sA sC S w)(d:aE w.heap.size w w'):Ed c p L f0 f1 f2 f3 f4 f5 f6 S w w':=
 ⟨sA,sC,h.grow d,Ext.of_below_size d⟩
theorem jI.sm {p:Pg}{L:bh}{w:World}(h:jI p L w){s:Sm}(q:s∈p.ss):(∃ao n cp,s.E= tU ao n cp)/\∀e,s.es=[e]->∃g cp,s.E= tU (tG ⟨g,0,tM⟩) 1 cp/\Ec w g e:=by
 rcases h.ex s q with⟨d,o⟩|⟨g,cap,d,o,t⟩
 ·exact⟨⟨_,_,_,o⟩,λe f=>by rw[f] at d;cases d⟩
 ·refine⟨⟨_,_,_,d⟩,λe f=>⟨g,cap,by rw[d,f];rfl,cH o h.lo,λj u v=> ?_⟩⟩
  have:=t 0 e (by rw[f];rfl) j u v;simpa using this
theorem xV {c:bh}{p:Pg}{L:bh}{f0 f1 f4 f5 f6:cA}{y:Ty}{sA:cG fS}{sC:bh}{S z:bj Fd}{s:Sm}(w:World)(h:Ck c p L f0 f1 (ua y.1) (tS y.2) f4 f5 f6 sA sC S w)(E:s∈p.ss)(G:qb p y S s z)(J:S.length<=900000):
  ge am 244 #[tW (tG ⟨c,0,tM⟩),ub s.cells] w λq w'=>q= ud (.tuple #[])/\Ed c p L f0 f1 (ua y.1) (tS y.2) f4 f5 f6 z w w':=by
 obtain⟨⟨ao,n,cp,K⟩,A⟩:=h.pg.sm E;rcases G with⟨d,e,f,j,rfl⟩|⟨d,fd,f,j,rfl⟩|⟨d,e,f,j,R,h5,rfl⟩
 ·obtain⟨g,cp,t,u⟩:=A e f
  unfold Sm.cells;rw[d,t];refine(oM 8 (.inl rfl) s.ty.1 s.ty.2 s.nm (tG ⟨g,0,tM⟩) 1 cp s.ln s.cl w h (λW o=>zI s.ty.1 s.ty.2 s.nm s.ln s.cl W (h.grow o) j (u.grow o))).mono ?_;rintro q w' ⟨v,x⟩;exact⟨v,h.mv x⟩
 ·unfold Sm.cells
  rw[d,K];refine(oM 9 (.inr rfl) s.ty.1 s.ty.2 s.nm ao n cp s.ln s.cl w h (λW o=>xU s.ty.1 s.ty.2 s.nm ao n cp s.ln s.cl W (h.grow o) f j)).mono ?_;rintro q w' ⟨v,x⟩;exact⟨v,h.mv x⟩
 ·obtain⟨g,cp,t,u⟩:=A e f
  unfold Sm.cells;rw[d,t];exact zJ s.nm s.ln s.cl w h j R h5 J u
inductive jb (p:Pg) (y:Ty):bj Fd->bj Sm->Prop
 |nil (S:bj Fd):jb p y S []
 |cons (S S1:bj Fd) (s:Sm) (l:bj Sm):qb p y S s S1->jb p y S1 l->jb p y S (s::l)
theorem qb.kind {p:Pg}{y:Ty}{S d:bj Fd}{s:Sm}(h:qb p y S s d):s.plainK:=by
 rcases h with h|h|h
 ·exact .inr (.inr (.inl h.1))
 ·exact .inr (.inr (.inr h.1))
 ·exact .inl h.1
theorem jb.kinds {p:Pg}{y:Ty}{S:bj Fd}{l:bj Sm}(h:jb p y S l):∀s∈l,s.plainK:=by
 induction h with
 |nil=>simp
 |cons S f s l e _ ih=>intro x d;rcases gh.1 d with rfl|d;exact e.kind;exact ih x d
theorem qb.len {p:Pg}{y:Ty}{S d:bj Fd}{s:Sm}(h:qb p y S s d):d.length<=S.length+1:=by
 rcases h with⟨_,_,_,_,rfl⟩|⟨_,_,_,_,rfl⟩|⟨_,_,_,_,_,_,rfl⟩
 ·omega
 ·omega
 ·rw[bo];simp
def I9 (c:bh)(p:Pg)(L:bh)(f0 f1 f4 f5 f6:cA)(y:Ty)(w:World)(k:cA)(wr:World):Prop:=
 ∃(j:bh) (S:bj Fd) (sA:cG fS) (sC:bh),k= Z U (j:aw)/\j<=p.ss.length/\S.length<=j/\jb p y S (p.ss.drop j)/\Ck c p L f0 f1 (ua y.1) (tS y.2) f4 f5 f6 sA sC S wr/\Ext (·=c) w wr
theorem uQ {c:bh}{p:Pg}{L:bh}{f0 f1 f4 f5 f6:cA}{y:Ty}(w:World)(h:Ck c p L f0 f1 (ua y.1) (tS y.2) f4 f5 f6 tM 0 [] w)(K:jb p y [] p.ss)(yb:p.ss.length<=1000)(vc:∀j,j<p.ss.length->(p.ss.take j).any iK=tR)(vd:p.ss≠[]):
  ge am 215 #[tW (tG ⟨c,0,tM⟩),tU p.bA p.ss.length p.bC] w λen w'=>en= ud (.tuple #[])/\Ck c p L f0 f1 (ua y.1) (tS y.2) f4 f5 f6 tM 0 [] w'/\Ext (·=c) w w':=by
 obtain⟨b,A,hA,yd,_⟩:=h.pg.st vd;have vx:=h.hc;have vy:=aa h.row;have c9:w.cell? ⟨c,9,tM⟩=tG (tU tM 0 0):=(rowAt h.row 9 rfl).1;have H:=zH h;have HA:=zH hA;have we:=zH vc;have HK:=zH K;have ye:c<w.heap.size:=vy;rw[hA];have wg:cj (∀sA sC S W,Ck c p L f0 f1 (ua y.1) (tS y.2) f4 f5 f6 sA sC S W->zS 178 #[tW (tG ⟨c,0,tM⟩)] W (ua tR)):=λsA sC S W hW=>dM W hW;have wj:cj (∀s∈p.ss,s.plainK):=K.kinds;clear h hA K vc vd;go_enter func215,ntmps215
 go_upto_region 2 with(fail)
 clear c9
 go_loopw [5] (λk wr=>I9 c p L f0 f1 f4 f5 f6 y w k wr) (λk _=>p.ss.length-(de k).toNat)
 case atStart=>exact⟨0,[],tM,0,rfl,cN _,cg _,HK.out,H.out,Ext.refl _ _⟩
 case round=>
  obtain⟨j,S,sA,sC,rfl,hj,yi,ue,t,f⟩:=hrel;have up:=zH t;have HX:=zH f;have wk:=zH (wg.out sA sC S wr t)
  by_cases v:j<p.ss.length
  ·have yk:(j:aw)<(p.ss.length:aw):=by omega
   obtain⟨s,E⟩:∃s,p.ss[j]?=tG s:=⟨_,ap v⟩
   have vf:p.ss.drop j=s::p.ss.drop (j+1):=by
    rw[jn v];have:p.ss[j]=s:=by rw[ap v] at E;exact cE E
    rw[this]
   rw[vf] at ue;cases ue with
   |cons _ S1 _ _ hst vh=>
    have ur:=cd E;obtain⟨⟨ao,n,cp,z⟩,_⟩:=t.pg.sm ur;have G:∀W,aE wr.heap.size wr W->(∀(i:bh)(x:Sm),p.ss[i]?=tG x->∀(k:bh)(u:cA),x.cells.toList[k]?=tG u->W.cell? ⟨b,A+i*9+k,tM⟩=tG u)/\b<W.heap.size:=λW hW=>by
     have vm:=(t.grow hW).pg;obtain⟨b',yp,J,h2,h3⟩:=vm.st (by intro e;rw[e] at v;simp at v);rw[HA.out] at J;simp only[dd,eR,pf] at J;rw[<-J.1] at h2 h3;rw[<-J.2] at h3;exact⟨h3,cH h2 vm.lo⟩
    have uv:(p.ss.take j).length=j:=by rw[ee];omega
    have wl:cj (∀q:BW wr,zP 216 #[tU (tG ⟨b,A,tM⟩) j p.bC] q.w (ua tR)):=λq=>by
     have:=ng b A p.bC (p.ss.take j) (by rw[uv];omega) (λx f=>⟨wj.out x (kA f),(t.pg.sm (kA f)).1⟩) q.w (λ_=>(G q.w q.h).2) (λi x f k u hu=>(G q.w q.h).1 i x (by
      have J:=bl.1 f;rw[mz] at f
      split at f
      ·exact f
      ·cases f) k u hu)
     rw[uv,we.out j v] at this;exact this
    have ws:cj (∀q:BW wr,zP 176 #[tW (tG ⟨c,0,tM⟩),ua tP,Z U 3,ub #[Z U s.ln,Z U s.cl]] q.w (ua tP)):=λq=>bX 3 s.ln s.cl q.w (t.grow q.h);have g:=zH G;have o:=zH E;have vp:=zH hst;have xf:=zH vh;have xj:=zH ur;have HE:=zH z;have yq:b<wr.heap.size:=(G wr (aq _ _)).2;have yr:j<=p.bC:=by have:=t.pg.cb;omega
    have yv:(j:aw)<=(p.bC:aw):=by omega
    clear t f E vf hst vh ur z G uv
    go_upto_region 4 with(go_at_call 178;refine wk.out.mono ?_;rintro e wr ⟨rfl,rfl⟩)
    have s7:∀q:BW wr,q.w.cell? ⟨b,A+j*9+7,tM⟩=tG (Z U s.ln):=λq=>(g.out q.w q.h).1 j s o.out 7 _ rfl;have s8:∀q:BW wr,q.w.cell? ⟨b,A+j*9+8,tM⟩=tG (Z U s.cl):=λq=>(g.out q.w q.h).1 j s o.out 8 _ rfl
    go_cut [5] (λs wc=>s= Z U (j:aw)/\aE wr.heap.size wr wc)
    case first=>
     refine zQ ?_
     repeat (go_big_quiet_step (first
      |(go_at_call 216;exact bE (wl.out _))
      |(go_at_call 176;exact bE (ws.out _))))
     refine dj ?_;rintro _ ⟨q,rfl⟩;have hq:=q.h;clear s7 s8;go_wp2
     go_meet
     case rel=>exact⟨rfl,hq⟩
    case rest=>
     obtain⟨rfl,d⟩:=hcut;clear s7 s8;have vq:=up.out.grow d;have ux:=zH (xV wc vq xj.out vp.out (by omega));have k0:=(g.out wc d).1 j s o.out 0 _ rfl;have k1:=(g.out wc d).1 j s o.out 1 _ rfl;have k2:=(g.out wc d).1 j s o.out 2 _ rfl;have k3:=(g.out wc d).1 j s o.out 3 _ rfl;have k4:=(g.out wc d).1 j s o.out 4 _ rfl;have k5:=(g.out wc d).1 j s o.out 5 _ rfl;have k6:=(g.out wc d).1 j s o.out 6 _ rfl;have k7:=(g.out wc d).1 j s o.out 7 _ rfl;have k8:=(g.out wc d).1 j s o.out 8 _ rfl;rw[ki] at k0;have z:=HE.out;rw[z] at k4;unfold Sm.cells at ux;rw[z] at ux;have yy:b<wc.heap.size:=(g.out wc d).2;have xo:=zH d;clear vq d z
     go_wp2_with (go_at_call 244;refine ux.out.mono ?_;rintro en w5 ⟨rfl,xp,xt,vr,vt⟩;have xF:=zH vr;have xT:=zH vt;clear vr vt)
     go_roundw
     case rel=>
      have yW:=vp.out.len;exact⟨j+1,S1,xp,xt,by go_num,v,by omega,xf.out,xF.out,(HX.out.trans (Ext.of_below_size (M:=λ_=>me) xo.out) (λq h=>h.elim)).trans xT.out (λq h=> .inl h)⟩
     case measure=>simp[de];omega
  ·have zc:j=p.ss.length:=by omega
   have R:=t.row;have zj:=aa R;have f9:wr.frozen? ⟨c,9,tM⟩=tR:=(rowAt R 9 rfl).2;have c9:wr.cell? ⟨c,9,tM⟩=tG (tU sA S.length sC):=(rowAt R 9 rfl).1;clear t f ue R;go_wp2
   go_end0
   have vu:Ext (·=c) wr (wr.setCell ⟨c,9,tM⟩ (tU tM 0 0)):=Ext.set1 wr c 9 _;exact⟨rfl,⟨mD up.out.row,up.out.pg.ext vu (λk K e=>by omega),vx,λh=>fL rfl h,by simp,λa h=>fL rfl h⟩,HX.out.trans vu (λq h=> .inl h)⟩
theorem Cg (ao:cG fS)(cp:bh)(w:World):zP 211 #[tU ao 1 cp] w (ub #[Z U 0,Z U 0]):=by
 obtain⟨N,e⟩:=zE w.heap.size;obtain⟨W1,d⟩:=zE (w.alloc (uc #[Z U 0,Z U 0] 40));have g:=iR d e;have f:W1.heap[N]?=tG (uc #[Z U 0,Z U 0] 40 (0,0)):=by rw[<-d,<-e];exact alloc_at _ _
 obtain⟨⟨c0,c1⟩,⟨f0,f1⟩,q⟩:=dz f;have h:=zH d;have j:=zH g;have o:=zH f;clear d g f;go_enter func211,ntmps211
 go_upto_region 1 with(fail)
 rw[h.out];go_wp2;(try simp only[dk,Exit.then]);refine er (fk (P:=am) rfl _ _ N 40 _ (0,0) _ rfl (bf o.out) nh rfl (by kernel_rfl)) rfl ?_;(try rw[e]);exact⟨rfl,(j.out.setCell (by show N<=N;omega) _).setCell (by show N<=N;omega) _⟩
theorem qX {c:bh}{p:Pg}{L:bh}{f0 f1 f2 f3 f4 f5 f6:cA}{sA:cG fS}{sC:bh}{S:bj Fd}{fd:Fd}(w:World)(h:Ck c p L f0 f1 f2 f3 f4 f5 f6 sA sC S w)(z:p.fs=[fd])(ur:fd.ty=(tP,p.snm)):
  ge am 175 #[tW (tG ⟨c,0,tM⟩)] w λen w'=>en= ud (.tuple #[])/\aE w.heap.size w w':=by
 have vh:p.pA<w.heap.size:=cH h.pg.pA h.pg.lo;have c0:w.cell? ⟨c,0,tM⟩=tG (tU (tG ⟨p.pA,0,tM⟩) 1 p.pC):=(rowAt h.row 0 rfl).1;have xf:=aa h.row;obtain⟨t,v,vm,vp,vq⟩:=h.pg.fd (by rw[z];simp);have vr:t<w.heap.size:=cH vp h.pg.lo;have vt:p.fs.length=1:=by rw[z];rfl
 have vu:∀W,aE w.heap.size w W->(W.cell? ⟨t,v,tM⟩=tG (tS fd.nm)/\W.cell? ⟨t,v+1,tM⟩=tG (ua tP)/\W.cell? ⟨t,v+2,tM⟩=tG (tS p.snm)/\W.cell? ⟨t,v+3,tM⟩=tG (Z U fd.ln)/\W.cell? ⟨t,v+4,tM⟩=tG (Z U fd.cl)):=λW o=>by
  have g:∀k u,fd.cells.toList[k]?=tG u->W.cell? ⟨t,v+k,tM⟩=tG u:=λk u hu=>by
   rw[o.cell (p:=⟨t,v+k,tM⟩) vr];have:=vq 0 fd (by rw[z];rfl) k u hu;simpa using this
  have e1:fd.ptr=tP:=congrArg eN ur;have e2:fd.tgt=p.snm:=congrArg fh ur;refine⟨g 0 _ rfl, ?_, ?_,g 3 _ rfl,g 4 _ rfl⟩
  ·rw[<-e1];exact g 1 _ rfl
  ·rw[<-e2];exact g 2 _ rfl
 have vx:∀W,aE w.heap.size w W->(W.cell? ⟨p.pA,0,tM⟩=tG (tS p.snm)/\W.cell? ⟨p.pA,1,tM⟩=tG (tU (tG ⟨t,v,tM⟩) 1 p.fC)/\W.cell? ⟨p.pA,2,tM⟩=tG (Z U p.sl)/\W.cell? ⟨p.pA,3,tM⟩=tG (Z U p.sc)):=λW o=>by
  have g:=(h.pg.grow o).s;refine⟨g 0 _ rfl, ?_,g 2 _ rfl,g 3 _ rfl⟩;have vy:=g 1 _ rfl;rw[vm,vt] at vy;exact vy
 have HF:=zH vu;have A:=zH vx;have H:=zH h;have uv:cj (∀(f a b:aw) W,aE w.heap.size w W->zP 176 #[tW (tG ⟨c,0,tM⟩),ua tP,Z U f,ub #[Z U a,Z U b]] W (ua tP)):=λf a b W o=>bX f a b W (h.grow o);have xj:cj (∀W,aE w.heap.size w W->zS 178 #[tW (tG ⟨c,0,tM⟩)] W (ua tR)):=λW o=>dM W (h.grow o);have ux:∀W,aE w.heap.size w W->zP 212 #[ub p.cells,tS p.snm] W (Z U 0):=λW o=>by
  have:=gU p.snm W (h.grow o).pg;unfold oJ at this;rw[iS] at this;exact this
 unfold Pg.cells at ux;have xo:=zH ux;have xp:cj (∀W,aE w.heap.size w W->zP 213 #[tW (tG ⟨c,0,tM⟩),ub #[ua tP,tS p.snm]] W (ua tP)):=λW o=>qF p.snm W (h.grow o) rfl;have hst:∀(w:World)(c:eA cA),c.size=5->(dt ⟨w.heap.size,0,tM⟩ [tS fd.nm,ua tP,tS p.snm,Z U fd.ln,Z U fd.cl] 0).run am (w.alloc (uc c 92))= .ok () (w.alloc (uc #[tS fd.nm,ua tP,tS p.snm,Z U fd.ln,Z U fd.cl] 92)):=λw c hc=>
  cx (P:=am) w 92 c #[tS fd.nm,ua tP,tS p.snm,Z U fd.ln,Z U fd.cl] (by show _=tG 5;kernel_rfl) hc (by simp[ct])
 have xt:=zH hst;clear h z ur vp vq vu vx ux vm vt hst;go_enter func175,ntmps175
 go_upto_region 3 with(first
  |(go_at_call 211;refine(Cg _ _ _).mono ?_;rintro e w2 ⟨rfl,we⟩;have vc:=zH we;clear we)
  |(go_at_call 176;refine(uv.out _ _ _ w2 vc.out).mono ?_;rintro e w3 ⟨rfl,wg⟩;have xF:=zH (vc.out.trans (wg.mono vc.out.size));clear wg))
 clear c0
 go_loopw [3] (λi wr=>(i= Z U 0\/i= Z U 1)/\aE w.heap.size w wr) (λi _=>1-(de i).toNat)
 case atStart=>exact⟨.inl rfl,xF.out⟩
 case round=>
  obtain⟨hi,d⟩:=hrel;have vd:=zH d;have xT:=zH (xj.out wr d);rcases hi with rfl|rfl
  rotate_left
  ·clear d
   go_wp2
   go_end0
   exact⟨rfl,vd.out⟩
  have b0:∀q:BW wr,q.w.cell? ⟨c,0,tM⟩=tG (tU (tG ⟨p.pA,0,tM⟩) 1 p.pC):=λq=>(rowAt (H.out.grow (d.trans (q.h.mono d.size))).row 0 rfl).1;have b1:∀q:BW wr,q.w.cell? ⟨c,1,tM⟩=tG (tU (tG ⟨p.qA,0,tM⟩) 1 p.qC):=λq=>(rowAt (H.out.grow (d.trans (q.h.mono d.size))).row 1 rfl).1;have E:∀q:BW wr,q.w.cell? ⟨p.pA,0,tM⟩=tG (tS p.snm):=λq=>(A.out q.w (d.trans (q.h.mono d.size))).1;have J:∀q:BW wr,q.w.cell? ⟨p.pA,2,tM⟩=tG (Z U p.sl):=λq=>(A.out q.w (d.trans (q.h.mono d.size))).2.2.1;have K:∀q:BW wr,q.w.cell? ⟨p.pA,3,tM⟩=tG (Z U p.sc):=λq=>(A.out q.w (d.trans (q.h.mono d.size))).2.2.2;have yb:cj (∀q:BW wr,zP 176 #[tW (tG ⟨c,0,tM⟩),ua tP,Z U 6,ub #[Z U p.sl,Z U p.sc]] q.w (ua tP)):=λq=>uv.out 6 p.sl p.sc q.w (d.trans (q.h.mono d.size));have yd:=zH (λq:BW wr=>xo.out q.w (d.trans (q.h.mono d.size)));have yq:p.pA<wr.heap.size:=cH vh d.size;have yr:c<wr.heap.size:=cH xf d.size;clear d
  go_upto_region 5 with(go_at_call 178;refine xT.out.mono ?_;rintro e wr ⟨rfl,rfl⟩)
  go_cut [3] (λs wc=>s= Z U 0/\aE wr.heap.size wr wc)
  case first=>
   refine zQ ?_
   repeat (go_big_quiet_step (first
    |(go_at_call 212;exact bE (yd.out _))
    |(go_at_call 176;exact bE (yb.out _))))
   refine dj ?_;rintro _ ⟨q,rfl⟩;have g:=q.h;clear b0 b1 E J K;go_wp2
   go_meet
   case rel=>exact⟨rfl,g⟩
  case rest=>
   obtain⟨rfl,wj⟩:=hcut;clear b0 b1 E J K;have wk:=vd.out.trans (wj.mono vd.out.size);have ye:=zH wk;clear wj wk
   go_upto_region 7 with(fail)
   go_loopw [4] (λk wq=>(k= Z U 0\/k= Z U 1)/\aE w.heap.size w wq) (λk _=>1-(de k).toNat)
   case atStart=>exact⟨.inl rfl,ye.out⟩
   case round=>
    obtain⟨hk,x⟩:=hrel;have wl:=zH x;obtain⟨E,s1,J,K⟩:=A.out wr x;have yv:p.pA<wr.heap.size:=cH vh x.size;rcases hk with rfl|rfl
    rotate_left
    ·clear x
     go_wp2;go_roundw
     case rel=>exact⟨.inr rfl,wl.out⟩
     case measure=>simp[de]
    obtain⟨k0,k1,k2,k3,k4⟩:=HF.out wr x;have yi:=xt.out wr;have yy:t<wr.heap.size:=cH vr x.size;clear x
    go_upto_region 11 with(fail)
    clear yi;obtain⟨G,hG⟩:=zE wr.heap.size;obtain⟨W5,R⟩:=zE (wr.alloc (uc #[tS fd.nm,ua tP,tS p.snm,Z U fd.ln,Z U fd.cl] 92));rw[hG,R];have ws:=zD R wl;have vf:W5.heap[G]?=tG (uc #[tS fd.nm,ua tP,tS p.snm,Z U fd.ln,Z U fd.cl] 92 (0,0)):=by rw[<-R,<-hG];exact alloc_at _ _
    have ue:=aa vf;have y:=zH ws;have up:=zH vf;clear hG R ws vf E s1 J K k0 k1 k2 k3 k4
    go_loopw [6] (λj wq=>j= Z U 0/\wq=W5) (λ_ _=>0)
    case atStart=>exact⟨rfl,rfl⟩
    case round=>
     obtain⟨rfl,rfl⟩:=hrel;have x1:∀q:BW wr,q.w.cell? ⟨G,1,tM⟩=tG (ua tP):=λq=>(rowAt ((q.h.block G ue).trans up.out) 1 rfl).1;have x2:∀q:BW wr,q.w.cell? ⟨G,2,tM⟩=tG (tS p.snm):=λq=>(rowAt ((q.h.block G ue).trans up.out) 2 rfl).1;have x3:∀q:BW wr,q.w.cell? ⟨G,3,tM⟩=tG (Z U fd.ln):=λq=>(rowAt ((q.h.block G ue).trans up.out) 3 rfl).1;have x4:∀q:BW wr,q.w.cell? ⟨G,4,tM⟩=tG (Z U fd.cl):=λq=>(rowAt ((q.h.block G ue).trans up.out) 4 rfl).1;have yk:cj (∀q:BW wr,zP 176 #[tW (tG ⟨c,0,tM⟩),ua tP,Z U 5,ub #[Z U fd.ln,Z U fd.cl]] q.w (ua tP)):=λq=>uv.out 5 fd.ln fd.cl q.w (y.out.trans (q.h.mono y.out.size));have yp:=zH (λq:BW wr=>xp.out q.w (y.out.trans (q.h.mono y.out.size)))
     go_upto_region 14 with(fail)
     refine zQ ?_
     repeat (go_big_quiet_step (first
      |(go_at_call 213;exact bE (yp.out _))
      |(go_at_call 176;exact bE (yk.out _))))
     refine dj ?_;rintro _ ⟨q,rfl⟩;have HQ:cj (aE w.heap.size w q.w):=y.out.trans (q.h.mono y.out.size);clear x1 x2 x3 x4;go_wp2;go_roundw
     case rel=>exact⟨.inr rfl,HQ.out⟩
     case measure=>simp[de]
def Pg.fnV (p:Pg):eA cA:=#[tS p.nm,tU tM 0 0,ua p.ret.1,tS p.ret.2,tU p.bA p.ss.length p.bC,Z U p.gl,Z U p.gc]
theorem qc {c:bh}{p:Pg}{L:bh}{f0 f1 f2 f3 f4 f5 f6:cA}{sA:cG fS}{sC:bh}{S:bj Fd}(w:World)(h:Ck c p L f0 f1 f2 f3 f4 f5 f6 sA sC S w)(vq:p.ret.1=tR)(hk:jb p p.ret [] p.ss)(wg:p.ss.length<=1000)(vr:∀j,j<p.ss.length->(p.ss.take j).any iK=tR)(vt:p.ss≠[])(vu:p.ss.any iK=tP):
  ge am 179 #[tW (tG ⟨c,0,tM⟩),ub p.fnV] w λen w'=>en= ud (.tuple #[])/\
   Ck c p L (tS p.nm) (tU tM 0 0) (ua p.ret.1) (tS p.ret.2) (tU p.bA p.ss.length p.bC) (Z U p.gl) (Z U p.gc) tM 0 [] w'/\Ext (·=c) w w':=by
 obtain⟨N,g⟩:=zE w.heap.size;unfold Pg.fnV;obtain⟨W1,G⟩:=zE (w.alloc (uc #[tS p.nm,tU tM 0 0,ua p.ret.1,tS p.ret.2,tU p.bA p.ss.length p.bC,Z U p.gl,Z U p.gc] 233));have up:=iR G g;have J:W1.heap[N]?=tG (uc #[tS p.nm,tU tM 0 0,ua p.ret.1,tS p.ret.2,tU p.bA p.ss.length p.bC,Z U p.gl,Z U p.gc] 233 (0,0)):=by rw[<-G,<-g];exact alloc_at _ _
 have yy:=aa J;have h1:=h.grow (by rw[g];exact up);have yW:c<N:=by rw[<-g];exact aa h.row
 have d:=h1.row;have zc:=aa d;have r2:=(rowAt d 2 rfl)
 have r3:=(rowAt d 3 rfl)
 have r4:=(rowAt d 4 rfl)
 have r5:=(rowAt d 5 rfl)
 have r6:=(rowAt d 6 rfl)
 have r7:=(rowAt d 7 rfl)
 have r8:=(rowAt d 8 rfl)
 have r9:=(rowAt d 9 rfl)
 obtain⟨u2,v2⟩:=r2;obtain⟨u3,v3⟩:=r3;obtain⟨u4,v4⟩:=r4;obtain⟨u5,v5⟩:=r5;obtain⟨u6,v6⟩:=r6;obtain⟨u7,v7⟩:=r7;obtain⟨u8,v8⟩:=r8;obtain⟨u9,v9⟩:=r9;obtain⟨⟨o,t,u,v,y,z,A⟩,_,zj⟩:=eZ J;have H1:=zH h1;have wj:=zH d;have wk:=zH G;have wl:=zH up;have ws:=zH J;have xf:=h.hc;have xj:=zH vq;have HK:=zH hk;have xo:=zH vr;have xp:=zH vu;clear h vq hk vr vu G up J h1 d;go_enter func179,ntmps179
 go_upto_region 1 with(fail)
 rw[wk.out]
 go_upto_region 4 with(fail)
 obtain⟨W2,K⟩:=zE ((((((((W1.setCell ⟨c,2,tM⟩ (tS p.nm)).setCell ⟨c,3,tM⟩ (tU tM 0 0)).setCell ⟨c,4,tM⟩ (ua p.ret.1)).setCell ⟨c,5,tM⟩ (tS p.ret.2)).setCell ⟨c,6,tM⟩ (tU p.bA p.ss.length p.bC)).setCell ⟨c,7,tM⟩ (Z U p.gl)).setCell ⟨c,8,tM⟩ (Z U p.gc)).setCell ⟨c,9,tM⟩ (tU tM 0 0));rw[K];have R:Ext (·=c) W1 W2:=by rw[<-K];exact ae (ae (ae (ae (ae (ae (ae (ae (Ext.refl _ _) _) _) _) _) _) _) _) _
 have vx:Ck c p L (tS p.nm) (tU tM 0 0) (ua p.ret.1) (tS p.ret.2) (tU p.bA p.ss.length p.bC) (Z U p.gl) (Z U p.gc) tM 0 [] W2:=by
  refine⟨?_,H1.out.pg.ext R (λk hk e=>by omega),xf,λh=>fL rfl h,by simp,λa h=>fL rfl h⟩;rw[<-K];exact bk _ c 9 _ _ _ (bk _ c 8 _ _ _ (bk _ c 7 _ _ _ (bk _ c 6 _ _ _ (bk _ c 5 _ _ _ (bk _ c 4 _ _ _ (bk _ c 3 _ _ _ (bk _ c 2 _ _ _ wj.out)))))))
 have ur:=R.heap ws.out (by omega);have xt:=zH R;have uv:=zH vx;have f:=zH ur;have E:=aa ur;clear K R vx ur u2 u3 u4 u5 u6 u7 u8 u9 v2 v3 v4 v5 v6 v7 v8 v9 o t u v y z A
 go_loopw [4] (λk wq=>k= Z U 0/\wq=W2) (λ_ _=>0)
 case atStart=>exact⟨rfl,rfl⟩
 case round=>
  obtain⟨rfl,rfl⟩:=hrel;obtain⟨⟨o,t,u,v,y,z,A⟩,_,_⟩:=eZ f.out
  go_upto_region 10 with(fail)
  clear o t u v y z A;have x2:∀q:BW wr,q.w.cell? ⟨N,2,tM⟩=tG (ua p.ret.1):=λq=>(rowAt ((q.h.block N E).trans f.out) 2 rfl).1;have x3:∀q:BW wr,q.w.cell? ⟨N,3,tM⟩=tG (tS p.ret.2):=λq=>(rowAt ((q.h.block N E).trans f.out) 3 rfl).1;have x5:∀q:BW wr,q.w.cell? ⟨N,5,tM⟩=tG (Z U p.gl):=λq=>(rowAt ((q.h.block N E).trans f.out) 5 rfl).1;have x6:∀q:BW wr,q.w.cell? ⟨N,6,tM⟩=tG (Z U p.gc):=λq=>(rowAt ((q.h.block N E).trans f.out) 6 rfl).1;have xF:cj (∀q:BW wr,zP 213 #[tW (tG ⟨c,0,tM⟩),ub #[ua p.ret.1,tS p.ret.2]] q.w (ua tP)):=λq=>by
   rw[xj.out];exact zG p.ret.2 q.w (uv.out.grow q.h)
  have xT:cj (∀q:BW wr,zP 176 #[tW (tG ⟨c,0,tM⟩),ua tP,Z U 5,ub #[Z U p.gl,Z U p.gc]] q.w (ua tP)):=λq=>bX 5 p.gl p.gc q.w (uv.out.grow q.h)
  go_cut [3] (λs wc=>s= tW (tG ⟨N,0,tM⟩)/\aE wr.heap.size wr wc)
  case first=>
   refine zQ ?_
   repeat (go_big_quiet_step (first
    |(go_at_call 213;exact bE (xF.out _))
    |(go_at_call 176;exact bE (xT.out _))))
   refine dj ?_;rintro _ ⟨q,rfl⟩;have hq:=q.h;clear x2 x3 x5 x6;go_wp2
   go_meet
   case rel=>exact⟨rfl,hq⟩
  case rest=>
   obtain⟨rfl,ue⟩:=hcut;clear x2 x3 x5 x6;have vy:=uv.out.grow ue;have yb:=zH (uQ wc vy HK.out wg xo.out vt);have ux:=(ue.block N E).trans f.out;obtain⟨⟨o,t,u,v,y,z,A⟩,_,zp⟩:=eZ ux;have yd:=zH ue;have ye:=zH ux;clear vy ux ue
   go_upto_region 12 with(go_at_call 215;refine yb.out.mono ?_;rintro en w5 ⟨rfl,we,vc⟩;have vd:=zH we;have yi:=zH vc;have vf:=vc.heap ye.out (by omega);have vh:=zH vf;have vm:=aa vf;clear we vc vf)
   have y4:∀q:BW w5,q.w.cell? ⟨N,4,tM⟩=tG (tU p.bA p.ss.length p.bC):=λq=>(rowAt ((q.h.block N vm).trans vh.out) 4 rfl).1;have y5:∀q:BW w5,q.w.cell? ⟨N,5,tM⟩=tG (Z U p.gl):=λq=>(rowAt ((q.h.block N vm).trans vh.out) 5 rfl).1;have y6:∀q:BW w5,q.w.cell? ⟨N,6,tM⟩=tG (Z U p.gc):=λq=>(rowAt ((q.h.block N vm).trans vh.out) 6 rfl).1;have yk:cj (∀q:BW w5,zP 176 #[tW (tG ⟨c,0,tM⟩),ua tP,Z U 8,ub #[Z U p.gl,Z U p.gc]] q.w (ua tP)):=λq=>bX 8 p.gl p.gc q.w (vd.out.grow q.h);have yp:cj (∀q:BW w5,zP 216 #[tU p.bA p.ss.length p.bC] q.w (ua tP)):=λq=>by
    have vp:=(vd.out.grow q.h).pg;obtain⟨b,yq,hA,yr,yv⟩:=vp.st vt;rw[hA];have:=ng b yq p.bC p.ss (by omega) (λx hx=>⟨HK.out.kinds x hx,(vp.sm hx).1⟩) q.w (λ_=>cH yr vp.lo) yv;rw[xp.out] at this;exact this
   clear o t u v y z A;refine zQ ?_
   repeat (go_big_quiet_step (first
    |(go_at_call 216;exact bE (yp.out _))
    |(go_at_call 176;exact bE (yk.out _))))
   refine dj ?_;rintro _ ⟨q,rfl⟩;clear y4 y5 y6;go_wp2
   go_end0
   refine⟨rfl,vd.out.grow q.h, ?_⟩;have e1:Ext (·=c) w W1:=Ext.of_below_size (by rw[g];exact wl.out);exact(((e1.trans xt.out (λq h=> .inl h)).trans (Ext.of_below_size (M:=λ_=>me) yd.out) (λq h=>h.elim)).trans yi.out (λq h=> .inl h)).trans (Ext.of_below_size (M:=λ_=>me) q.h) (λq h=>h.elim)
def qG:bm:=⟨#[109,97,105,110]⟩
structure GD (p:Pg):Prop where
 fs:∃fd,p.fs=[fd]/\fd.ty=(tP,p.snm)
 nm:p.nm=qG
 ret:p.ret.1=tR
 ok:jb p p.ret [] p.ss
 ss:p.ss.length<=1000
 en:∀j,j<p.ss.length->(p.ss.take j).any iK=tR
 ne:p.ss≠[]
 fin:p.ss.any iK=tP
def Ja (p:Pg):eA cA:=#[tU (tG ⟨p.pA,0,tM⟩) 1 p.pC,tU (tG ⟨p.qA,0,tM⟩) 1 p.qC,tS ⟨#[]⟩,tU tM 0 0,ua tR,tS ⟨#[]⟩,tU tM 0 0,Z U 0,Z U 0,tU tM 0 0,Z U 0,Z U 0,Z U 0,Z U 0,Z U 0]
def kU (c:bh)(p:Pg)(L:bh)(w:World):Prop:=∃f0 f1 f2 f3 f4 f5 f6 sA sC S,Ck c p L f0 f1 f2 f3 f4 f5 f6 sA sC S w
theorem kU.grow {c:bh}{p:Pg}{L:bh}{w w':World}(h:kU c p L w)(d:aE w.heap.size w w'):kU c p L w':=by
 obtain⟨f0,f1,f2,f3,f4,f5,f6,sA,sC,S,h⟩:=h;exact⟨f0,f1,f2,f3,f4,f5,f6,sA,sC,S,h.grow d⟩
theorem kU.pg {c:bh}{p:Pg}{L:bh}{w:World}(h:kU c p L w):jI p L w:=by
 obtain⟨f0,f1,f2,f3,f4,f5,f6,sA,sC,S,h⟩:=h;exact h.pg
theorem kK {c:bh}{p:Pg}{L:bh}(f a b:aw)(w:World)(h:kU c p L w):
  zP 176 #[tW (tG ⟨c,0,tM⟩),ua tP,Z U f,ub #[Z U a,Z U b]] w (ua tP):=by
 obtain⟨f0,f1,f2,f3,f4,f5,f6,sA,sC,S,h⟩:=h;exact bX f a b w h
theorem xW {c:bh}{p:Pg}{L:bh}(w:World)(h:kU c p L w):zS 178 #[tW (tG ⟨c,0,tM⟩)] w (ua tR):=by
 obtain⟨f0,f1,f2,f3,f4,f5,f6,sA,sC,S,h⟩:=h;exact dM w h
theorem zM {c:bh}{p:Pg}{L:bh}(w:World)(h:kU c p L w)(d:GD p):ge am 179 #[tW (tG ⟨c,0,tM⟩),ub p.fnV] w λe w'=>e= ud (.tuple #[])/\kU c p L w'/\Ext (·=c) w w':=by
 obtain⟨f0,f1,f2,f3,f4,f5,f6,sA,sC,S,h⟩:=h;refine(qc w h d.ret d.ok d.ss d.en d.ne d.fin).mono ?_;rintro e w' ⟨f,g,j⟩;exact⟨f,⟨_,_,_,_,_,_,_,_,_,_,g⟩,j⟩
theorem kU.d {c:bh}{p:Pg}{L:bh}{w:World}(h:kU c p L w):w.cell? ⟨c,10,tM⟩=tG (Z U 0)/\w.cell? ⟨c,11,tM⟩=tG (Z U 0)/\w.cell? ⟨c,12,tM⟩=tG (Z U 0)/\w.cell? ⟨c,13,tM⟩=tG (Z U 0)/\c<w.heap.size:=by
 obtain⟨f0,f1,f2,f3,f4,f5,f6,sA,sC,S,h⟩:=h;exact⟨(rowAt h.row 10 rfl).1,(rowAt h.row 11 rfl).1,(rowAt h.row 12 rfl).1,(rowAt h.row 13 rfl).1,aa h.row⟩
structure FC (N:bh)(p:Pg)(L:bh)(w W:World):Prop where
 ck:kU (N+2) p L W
 r0:W.heap[N]?=tG (uc #[tU (tG ⟨p.pA,0,tM⟩) 1 p.pC,tU (tG ⟨p.qA,0,tM⟩) 1 p.qC] 179 (0,0))
 r1:W.heap[N+1]?=tG (uc #[Z U 0,Z U 0,Z U 0,Z U 0] 113 (0,0))
 low:aE N w W
theorem FC.grow {N:bh}{p:Pg}{L:bh}{w W e:World}(h:FC N p L w W)(d:aE W.heap.size W e):FC N p L w e:=
 ⟨h.ck.grow d,(d.block N (aa h.r0)).trans h.r0,(d.block (N+1) (aa h.r1)).trans h.r1,h.low.trans (d.mono (nx (aa h.r0)))⟩
theorem FC.fn {N:bh}{p:Pg}{L:bh}{w W:World}(h:FC N p L w W):(W.cell? ⟨p.qA,0,tM⟩=tG (tS p.nm)/\W.cell? ⟨p.qA,1,tM⟩=tG (tU tM 0 0)/\W.cell? ⟨p.qA,2,tM⟩=tG (ua p.ret.1)/\W.cell? ⟨p.qA,3,tM⟩=tG (tS p.ret.2)/\W.cell? ⟨p.qA,4,tM⟩=tG (tU p.bA p.ss.length p.bC)/\W.cell? ⟨p.qA,5,tM⟩=tG (Z U p.gl)/\W.cell? ⟨p.qA,6,tM⟩=tG (Z U p.gc))/\p.qA<W.heap.size:=by
 have d:=h.ck.pg.f;exact⟨⟨d 0 _ rfl,d 1 _ rfl,d 2 _ rfl,d 3 _ rfl,d 4 _ rfl,d 5 _ rfl,d 6 _ rfl⟩,cH h.ck.pg.qA h.ck.pg.lo⟩
theorem uR {p:Pg}{L:bh}(w:World)(h:jI p L w)(ho:GD p):
  zP 130 #[ub p.cells] w (ub #[Z U 0,Z U 0,Z U 0,Z U 0]):=by
 obtain⟨N,u⟩:=zE w.heap.size;obtain⟨fd,vq,vr⟩:=ho.fs;obtain⟨W2,v⟩:=zE ((w.alloc (uc #[tU (tG ⟨p.pA,0,tM⟩) 1 p.pC,tU (tG ⟨p.qA,0,tM⟩) 1 p.qC] 179)).alloc (uc #[Z U 0,Z U 0,Z U 0,Z U 0] 113));obtain⟨t,x⟩:=zE (W2.alloc (uc (Ja p) 275));have vt:=vX v u;have vu:W2.heap.size=N+2:=by rw[<-v];simp[u]
 have ux:aE N w t:=by rw[<-x];exact vt.alloc (by omega) _
 have vx:t.heap[N]?=tG (uc #[tU (tG ⟨p.pA,0,tM⟩) 1 p.pC,tU (tG ⟨p.qA,0,tM⟩) 1 p.qC] 179 (0,0)):=by
  rw[<-x];refine(cJ _ _ N (by omega)).trans ?_;rw[<-v,<-u];exact kp _ _ _
 have vy:t.heap[N+1]?=tG (uc #[Z U 0,Z U 0,Z U 0,Z U 0] 113 (0,0)):=by
  rw[<-x];refine(cJ _ _ (N+1) (by omega)).trans ?_;rw[<-v,<-u];exact jp _ _ _
 have we:t.heap[N+2]?=tG (uc (Ja p) 275 (0,0)):=by rw[<-x,<-vu];exact alloc_at _ _
 have wg:=h.grow (show aE w.heap.size w t by rw[u];exact ux);have vc:Ck (N+2) p L (tS ⟨#[]⟩) (tU tM 0 0) (ua tR) (tS ⟨#[]⟩) (tU tM 0 0) (Z U 0) (Z U 0) tM 0 [] t:=
  ⟨we,wg,by have:=h.lo;omega,λh=>fL rfl h,by simp,λa h=>fL rfl h⟩
 have xT:=zH (qX t vc vq vr);have yb:cj (FC N p L w t):=⟨⟨_,_,_,_,_,_,_,_,_,_,vc⟩,vx,vy,ux⟩
 have HO:=zH ho;have vd:=x;unfold Ja at vd;have yd:=zH vd;have ye:=zH v;obtain⟨⟨g,j⟩,_,_⟩:=dz ((show W2.heap[N]?=tG (uc #[tU (tG ⟨p.pA,0,tM⟩) 1 p.pC,tU (tG ⟨p.qA,0,tM⟩) 1 p.qC] 179 (0,0)) by rw[<-v,<-u];exact kp _ _ _));have yr:N<W2.heap.size:=by omega
 unfold Pg.cells;clear h ho vq vr v x vd vt ux vx vy we wg vc;go_enter func130,ntmps130
 go_upto_region 1 with(fail)
 rw[ye.out]
 go_upto_region 2 with(fail)
 rw[yd.out];(try simp only[vu]);clear g j
 go_upto_region 4 with(go_at_call 175;refine xT.out.mono ?_;rintro en w4 ⟨rfl,wj⟩;have yi:=zH (yb.out.grow wj);clear wj)
 go_loopw [4] (λi wr=>(i= Z U 0\/i= Z U 1)/\FC N p L w wr) (λi _=>1-(de i).toNat)
 case atStart=>exact⟨.inl rfl,yi.out⟩
 case round=>
  obtain⟨hi,f⟩:=hrel;obtain⟨⟨z,A,y,E,G,J,K⟩,yv⟩:=f.fn;obtain⟨⟨g,j⟩,_,yy⟩:=dz f.r0;have wk:=zH f;have ue:=zH (kK 2 p.gl p.gc wr f.ck);clear f;rcases hi with rfl|rfl
  ·go_wp2_with (go_at_call 176;refine ue.out.mono ?_;rintro en w5 ⟨rfl,wl⟩;have vf:=zH (wk.out.grow wl);clear wl)
   go_roundw
   case rel=>exact⟨.inr rfl,vf.out⟩
   case measure=>simp[de]
  clear ue
  go_upto_region 8 with(fail)
  clear z A y E G J K g j
  go_loopw [5] (λi wr=>(i= Z U 0\/i= Z U 1)/\FC N p L w wr) (λi _=>1-(de i).toNat)
  case atStart=>exact⟨.inl rfl,wk.out⟩
  case round=>
   obtain⟨hi,f⟩:=hrel;obtain⟨⟨g,j⟩,_,yW⟩:=dz f.r0;have o:=zH f;have zc:=f.fn.2;clear f;rcases hi with rfl|rfl
   ·go_upto_region 10 with(fail)
    clear g j;have x0:∀q:BW wr,q.w.cell? ⟨N,0,tM⟩=tG (tU (tG ⟨p.pA,0,tM⟩) 1 p.pC):=λq=>(rowAt (o.out.grow q.h).r0 0 rfl).1;have x1:∀q:BW wr,q.w.cell? ⟨N,1,tM⟩=tG (tU (tG ⟨p.qA,0,tM⟩) 1 p.qC):=λq=>(rowAt (o.out.grow q.h).r0 1 rfl).1;have y0:∀q:BW wr,q.w.cell? ⟨p.qA,0,tM⟩=tG (tS p.nm):=λq=>(o.out.grow q.h).fn.1.1;have y5:∀q:BW wr,q.w.cell? ⟨p.qA,5,tM⟩=tG (Z U p.gl):=λq=>(o.out.grow q.h).fn.1.2.2.2.2.2.1;have y6:∀q:BW wr,q.w.cell? ⟨p.qA,6,tM⟩=tG (Z U p.gc):=λq=>(o.out.grow q.h).fn.1.2.2.2.2.2.2;have vh:∀q:BW wr,zP 177 #[ub p.cells,tS p.nm] q.w (Z U 0):=λq=>by
     have:=oK p.nm q.w (o.out.grow q.h).ck.pg;unfold Fv at this;rw[iS] at this;exact this
    unfold Pg.cells at vh;have yk:=zH vh;have ue:=zH (λq:BW wr=>kK 6 p.gl p.gc q.w (o.out.grow q.h).ck);clear vh;refine zQ ?_
    repeat (go_big_quiet_step (first
     |(go_at_call 177;exact bE (yk.out _))
     |(go_at_call 176;exact bE (ue.out _))))
    refine dj ?_;rintro _ ⟨q,rfl⟩;have HQ:=zH (o.out.grow q.h);clear x0 x1 y0 y5 y6;go_wp2;go_roundw
    case rel=>exact⟨.inr rfl,HQ.out⟩
    case measure=>simp[de]
   go_upto_region 12 with(fail)
   clear g j
   go_loopw [6] (λi wr=>(i= Z U 0\/i= Z U 1)/\FC N p L w wr) (λi _=>1-(de i).toNat)
   case atStart=>exact⟨.inl rfl,o.out⟩
   case round=>
    obtain⟨hi,f⟩:=hrel;obtain⟨⟨g,j⟩,_,zj⟩:=dz f.r0;obtain⟨⟨z,A,y,E,G,J,K⟩,zp⟩:=f.fn;have R:=zH f;have ws:=zH (xW wr f.ck);have vm:=zM wr f.ck HO.out;unfold Pg.fnV at vm;have xf:=zH vm;clear f vm;rcases hi with rfl|rfl
    ·go_wp2_with (first
      |(go_at_call 178;refine ws.out.mono ?_;rintro e wr ⟨rfl,rfl⟩)
      |(go_at_call 179;refine xf.out.mono ?_;rintro en w5 ⟨rfl,xj,up⟩;have vf:cj (FC N p L w w5):=(⟨xj,up.heap R.out.r0 (by omega),up.heap R.out.r1 (by omega),R.out.low.trans (up.below (by omega) (λq hq=>by omega))⟩:FC N p L w w5);clear xj up))
     go_roundw
     case rel=>exact⟨.inr rfl,vf.out⟩
     case measure=>simp[de]
    have xo:p.nm=qG:=HO.out.nm;have vp:zP 177 #[ub p.cells,tS qG] wr (Z U 0):=by
     have:=oK qG wr R.out.ck.pg;unfold Fv at this;rw[xo,iS] at this;exact this
    unfold Pg.cells qG at vp;have yp:=zH vp;clear xo vp xf ws
    go_upto_region 16 with(go_at_call 177;refine yp.out.mono ?_;rintro en w6 ⟨rfl,xp⟩;have ur:=zH (R.out.grow xp);clear xp)
    clear g j z A y E G J K;obtain⟨⟨g,j⟩,_,zs⟩:=dz ur.out.r0;obtain⟨⟨z,A,y,E,G,J,K⟩,zv⟩:=ur.out.fn;have xt:=HO.out.ret;rw[xt] at y;have yq:=zH (kK 9 1 1 w6 ur.out.ck);clear xt
    go_upto_region 17 with(go_at_call 176;refine yq.out.mono ?_;rintro en w7 ⟨rfl,xF⟩;have uv:=zH (ur.out.grow xF);clear xF)
    clear g j z A y E G J K;obtain⟨d0,d1,d2,d3,An⟩:=uv.out.ck.d;obtain⟨⟨e0,e1,e2,e3⟩,⟨f0,f1,f2,f3⟩,At⟩:=mP uv.out.r1;go_wp2;(try simp only[dk,Exit.then]);refine er (fk (P:=am) rfl _ _ (N+1) 113 _ (0,0) _ rfl (jw uv.out.r1) pw rfl (by kernel_rfl)) rfl ?_;(try rw[u]);exact⟨rfl,sw uv.out.low (by omega) _ _ _ _⟩
end Go.Proofs.YtjomgckjhcfbgaaGreat
