/- Walks. -/
import Derived.Test.YtjomgckjhcfbgaaGreatP3
set_option maxRecDepth 100000
set_option maxHeartbeats 64000000
set_option linter.all false
namespace Go.Proofs.YtjomgckjhcfbgaaGreat
open Go.RowKit
open Go.Proofs.Tryz renaming prog→am,underlying88→gR,underlying40→ms,underlying113→oy
open _root_.List renaming getElem?_eq_getElem→ap,length_append→bm,getElem?_eq_some_iff→bo,mem_of_getElem?→ci,take_length→cL,length_take→ee,length_cons→eh,nil_append→eK,flatMap_cons→fm,flatMap_append→fS,mem_cons→fW,getElem?_append_right→gA,drop_eq_getElem_cons→ij,mem_flatMap→iv,any_eq_true→js,length_pos_iff→kq,getElem?_take→lO,mem_of_mem_take→mj,getElem?_append_left→mz
open Go.RowKit.Below renaming refl→aq,heap_alloc→cE
open _root_ renaming Int→aw,Nat→bj,ByteArray→bl,List→bp,Option→cC,if_pos→cH,Array→dl,absurd→fz,beq_self_eq_true→kO,False→lj,Bool→ml
open Go.RowKit renaming Below→aE,Hid→cg,intOf→dp
open Go renaming heap_setCell_same→bk,cell_of_row→bt,run_storeCells_new→cr,Value→cw,storeCells→dd,bodyPost_ret→dk,wpQuiet_nil→dr,maxLen→du,results_cell_row→er,Addr→fg,Calls→fj,TypeId→fX,heap_alloc2_new→im,heap_alloc2_old→i8,info_parts→m6
open _root_.Nat renaming le_refl→cd,lt_of_lt_of_le→cD,zero_add→cI,zero_le→cM,add_zero→i7,le_of_lt→mA,add_comm→qr,succ_mul→rB
open Go.Value renaming oneCell'→cn,string→tm,slice→tn,pointer→tr,bool→tt,agg→tv,int→Z
open _root_.Option.some renaming inj→cy,injEq→dj
open Go.Exit renaming inBlock→cQ
open Go.Addr renaming add_lit→cU
open Go.Addr.mk renaming injEq→eV
open _root_.Prod renaming fst→m8,snd→nd
open _root_.Option renaming some→tf,none→th
open _root_.Bool renaming true→ti,false→tj
open Go.Obj renaming cells→tA
open Go.Ending renaming returned→tB
open Go.IntKind renaming i64→U
open Tryz
def Sm.plainK (s:Sm):Prop:=s.kind=1\/s.kind=3\/s.kind=8\/s.kind=9
def gT (s:Sm):ml:=s.kind==8
theorem wV (s:Sm)(q:s.plainK)(ao:cC fg)(n cp:bj)(e:s.E= tn ao n cp)(w:World):
  zP 245 #[tv s.cells] w (tt (gT s)):=by
 obtain⟨W1,d⟩:=zE (w.alloc (tA #[Z U s.kind,tt s.ty.1,tm s.ty.2,tm s.nm,tn ao n cp,tn th 0 0,tn th 0 0,Z U s.ln,Z U s.cl] 282));have f:=gy d;have g:W1.heap[w.heap.size]?=tf (tA #[Z U s.kind,tt s.ty.1,tm s.ty.2,tm s.nm,tn ao n cp,tn th 0 0,tn th 0 0,Z U s.ln,Z U s.cl] 282 (0,0)):=by rw[<-d];exact alloc_at _ _
 obtain⟨⟨c0,c1,c2,c3,c4,u,v,x,y⟩,_,z⟩:=fe g;unfold Sm.cells;rw[e];have j:=zH d;have t:=zH f;clear d f g e;rcases q with h|h|h|h<;>(
  have o:cg (gT s=(s.kind==8)):=rfl;rw[o.out];rw[h] at c0 j⊢;clear h o;go_enter func245,ntmps245
  go_upto_region 1 with(fail)
  rw[j.out];go_wp2;go_ret;exact⟨rfl,t.out⟩)
theorem mq (b y cap:bj)(l:bp Sm)(hl:l.length<=1000000)(R:∀s∈l,s.plainK/\∃ao n cp,s.E= tn ao n cp)(w:World)(hb:l≠[]->b<w.heap.size)(W:∀(i:bj)(x:Sm),l[i]?=tf x->∀(k:bj)(u:cw),x.cells.toList[k]?=tf u->w.cell? ⟨b,y+i*9+k,th⟩=tf u):
  zP 216 #[tn (tf ⟨b,y,th⟩) l.length cap] w (tt (l.any gT)):=by
 have HK:=zH R;have HB:=zH hb;have HC:=zH W;clear R hb W;go_enter func216,ntmps216;go_wp2
 go_loopw [3] (λk wr=>∃j:bj,k= Z U (j:aw)/\j<=l.length/\(l.take j).any gT=tj/\aE w.heap.size w wr) (λk _=>l.length-(dp k).toNat)
 case atStart=>exact⟨0,rfl,cM _,rfl,aq _ _⟩
 case round=>
  obtain⟨j,rfl,hj,f,z⟩:=hrel;have HZ:=zH f;have g:=zH z
  by_cases A:j<l.length
  ·have tW:(j:aw)<(l.length:aw):=by omega
   obtain⟨x,o⟩:∃x,l[j]?=tf x:=⟨_,ap A⟩
   have tP:=HB.out (by intro e;rw[e] at A;simp at A);obtain⟨tD,ao,n,cp,G⟩:=HK.out x (ci o);have d:∀(k:bj)(u:cw),x.cells.toList[k]?=tf u->wr.cell? ⟨b,y+j*9+k,th⟩=tf u:=λk u hu=>(z.cell (p:=⟨b,y+j*9+k,th⟩) tP).trans (HC.out j x o k u hu);have k0:=d 0 _ rfl;have k1:=d 1 _ rfl;have k2:=d 2 _ rfl;have k3:=d 3 _ rfl;have k4:=d 4 _ rfl;have k5:=d 5 _ rfl;have k6:=d 6 _ rfl;have k7:=d 7 _ rfl;have k8:=d 8 _ rfl;rw[i7] at k0;rw[G] at k4;have t:=wV x tD ao n cp G wr;obtain⟨q,J⟩:=zE (gT x);rw[J] at t;unfold Sm.cells at t;rw[G] at t;have tE:=zH t;have tG:(l.take (j+1)).any gT=q:=by rw[DL l gT o,f,J];simp
   have tR:=zH tG;have tM:q=ti->l.any gT=ti:=λh=>by rw[js];exact⟨x,ci o,by rw[J];exact h⟩
   have tS:=zH tM;clear f z o G t J d tG tM tD;cases q with
   |true=>
    go_wp2_with (go_at_call 245;refine tE.out.mono ?_;rintro e w2 ⟨rfl,v⟩;have K:=zH (g.out.trans (v.mono g.out.size));clear v)
    go_ret;rw[tS.out (by first|rfl|trivial)];exact⟨rfl,K.out⟩
   |false=>
    go_wp2_with (go_at_call 245;refine tE.out.mono ?_;rintro e w2 ⟨rfl,v⟩;have K:=zH (g.out.trans (v.mono g.out.size));clear v)
    go_roundw
    case rel=>exact⟨j+1,by go_num,A,tR.out,K.out⟩
    case measure=>simp[dp];omega
  ·have tU:j=l.length:=by omega
   subst tU;rw[cL] at f;have HE:cg (l.any gT=tj):=f;clear f z;go_wp2;go_ret;rw[HE.out];exact⟨rfl,g.out⟩
def D9 (p:Pg)(S:bp Fd)(e:Ex)(y:Ty):Prop:=
 (e.kind=1/\y=bG)\/(e.kind=2/\∃d,jL S e.nm=tf d/\d.ty=y)\/(e.kind=7/\p.snm=e.nm/\y=(ti,e.nm))
theorem nL {c:bj}{p:Pg}{L:bj}{f0 f1 f2 f3 f4 f5 f6:cw}{sA:cC fg}{sC:bj}{S:bp Fd}{e:Ex}{y:Ty}(w:World)(h:Ck c p L f0 f1 f2 f3 f4 f5 f6 sA sC S w)(g:D9 p S e y):
  fj am 265 #[tr (tf ⟨c,0,th⟩),tv e.cells] w λj w'=>j= tB (tv #[tt y.1,tm y.2])/\aE w.heap.size w w':=by
 unfold Ex.cells;rcases g with⟨d,rfl⟩|⟨d,o,f,rfl⟩|⟨d,f,rfl⟩
 ·rw[d];exact AP e.n e.nm e.ln e.cl w h
 ·rw[d];exact AQ e.n e.nm e.ln e.cl w h f
 ·rw[d];exact AR e.n e.nm e.ln e.cl w h f
def CJ (w:World)(g:bj)(e:Ex):Prop:=g<w.heap.size/\∀(j:bj)(u:cw),e.cells.toList[j]?=tf u->w.cell? ⟨g,j,th⟩=tf u
theorem CJ.grow {w w':World}{g:bj}{e:Ex}(h:CJ w g e)(hb:aE w.heap.size w w'):CJ w' g e:=⟨cD h.1 hb.size,λj u d=>by rw[hb.cell (p:=⟨g,j,th⟩) h.1];exact h.2 j u d⟩
theorem yJ {c:bj}{p:Pg}{L:bj}{f0 f1 f4 f5 f6:cw}{y:Ty}{sA:cC fg}{sC:bj}{S:bp Fd}{e:Ex}{g cp:bj}(E:ml)(G nm:bl)(ln cl:aw)(w:World)(h:Ck c p L f0 f1 (tt y.1) (tm y.2) f4 f5 f6 sA sC S w)(hy:D9 p S e y)(hg:CJ w g e):
  fj am 268 #[tr (tf ⟨c,0,th⟩),tv #[Z U 8,tt E,tm G,tm nm,tn (tf ⟨g,0,th⟩) 1 cp,tn th 0 0,tn th 0 0,Z U ln,Z U cl]] w λen w'=>en= tB (.tuple #[])/\aE w.heap.size w w':=by
 obtain⟨N,j⟩:=zE w.heap.size;obtain⟨W1,t⟩:=zE (w.alloc (tA #[Z U 8,tt E,tm G,tm nm,tn (tf ⟨g,0,th⟩) 1 cp,tn th 0 0,tn th 0 0,Z U ln,Z U cl] 282));have u:=ik t j;have v:W1.heap[N]?=tf (tA #[Z U 8,tt E,tm G,tm nm,tn (tf ⟨g,0,th⟩) 1 cp,tn th 0 0,tn th 0 0,Z U ln,Z U cl] 282 (0,0)):=by rw[<-t,<-j];exact alloc_at _ _
 have tE:=ae v;have J:=h.grow (by rw[j];exact u);have d:=hg.grow (by rw[j];exact u);have K:=nL W1 J hy;unfold Ex.cells at K;have tR:=zH K;have e0:=d.2 0 _ rfl;have e1:=d.2 1 _ rfl;have e2:=d.2 2 _ rfl;have e3:=d.2 3 _ rfl;have e4:=d.2 4 _ rfl;have e5:=d.2 5 _ rfl;have e6:=d.2 6 _ rfl;obtain⟨⟨a0,a1,a2,a3,a4,a5,a6,a7,a8⟩,_,up⟩:=fe v;have hst:∀(w:World)(c:dl cw),c.size=2->(dd ⟨w.heap.size,0,th⟩ [tt y.1,tm y.2] 0).run am (w.alloc (tA c 32))= .ok () (w.alloc (tA #[tt y.1,tm y.2] 32)):=λw c hc=>
  cr (P:=am) w 32 c #[tt y.1,tm y.2] (by show _=tf 2;kernel_rfl) hc (by simp[cn])
 have tS:=zH hst;have H1:=zH J;have tU:=zH d;have tW:=zH t;have ua:=zH u;have ub:=zH v;have ur:=d.1;clear h hy hg t u v J d K hst;go_enter func268,ntmps268
 go_upto_region 1 with(fail)
 rw[tW.out]
 go_upto_region 7 with(go_at_call 265;refine tR.out.mono ?_;rintro en w2 ⟨rfl,tG⟩;have uc:=zH tG;have ud:=tS.out w2;clear tG)
 clear ud;obtain⟨T,R⟩:=zE w2.heap.size;obtain⟨f,x⟩:=zE (w2.alloc (tA #[tt y.1,tm y.2] 32));rw[R,x];have o:=zD x uc;have z:f.heap[T]?=tf (tA #[tt y.1,tm y.2] 32 (0,0)):=by rw[<-x,<-R];exact alloc_at _ _
 have tM:=ae z;have A:=H1.out.grow o;have W:=tU.out.grow o;have tD:=(o.block N tE).trans ub.out;have t0:∀q:BW f,q.w.cell? ⟨T,0,th⟩=tf (tt y.1):=λq=>(rowAt ((q.h.block T tM).trans z) 0 rfl).1;have t1:∀q:BW f,q.w.cell? ⟨T,1,th⟩=tf (tm y.2):=λq=>(rowAt ((q.h.block T tM).trans z) 1 rfl).1;have c4:∀q:BW f,q.w.cell? ⟨c,4,th⟩=tf (tt y.1):=λq=>(rowAt (A.grow q.h).row 4 rfl).1;have c5:∀q:BW f,q.w.cell? ⟨c,5,th⟩=tf (tm y.2):=λq=>(rowAt (A.grow q.h).row 5 rfl).1;have x4:∀q:BW f,q.w.cell? ⟨N,4,th⟩=tf (tn (tf ⟨g,0,th⟩) 1 cp):=λq=>(rowAt ((q.h.block N (ae tD)).trans tD) 4 rfl).1;have g5:∀q:BW f,q.w.cell? ⟨g,5,th⟩=tf (Z U e.ln):=λq=>(W.grow q.h).2 5 _ rfl;have g6:∀q:BW f,q.w.cell? ⟨g,6,th⟩=tf (Z U e.cl):=λq=>(W.grow q.h).2 6 _ rfl;have ue:cg (∀q:BW f,zP 176 #[tr (tf ⟨c,0,th⟩),tt ti,Z U 7,tv #[Z U e.ln,Z U e.cl]] q.w (tt ti)):=λq=>bQ 7 e.ln e.cl q.w (A.grow q.h);have tP:=zH o;clear R x o z A W tD a0 a1 a2 a3 a4 a5 a6 a7 a8 e0 e1 e2 e3 e4 e5 e6;refine zQ ?_
 repeat (go_big_quiet_step (first
  |(go_at_call 266;exact bg (qd _ _ _))
  |(go_at_call 176;exact bg (ue.out _))))
 refine dr ?_;rintro _ ⟨q,rfl⟩;clear t0 t1 c4 c5 x4 g5 g6;go_wp2
 go_end0
 exact⟨rfl,by(try rw[j]);exact ua.out.trans ((tP.out.trans (q.h.mono tP.out.size)).mono (mA tE))⟩
theorem wW {c:bj}{p:Pg}{L:bj}{f0 f1 f2 f3 f4 f5 f6:cw}{sA:cC fg}{sC:bj}{S:bp Fd}{d:Fd}(x:ml)(y nm:bl)(z:cC fg)(e A:bj)(g j:aw)(w:World)(h:Ck c p L f0 f1 f2 f3 f4 f5 f6 sA sC S w)(hl:jL S nm=tf d)(hp:d.ty.1=ti):
  fj am 268 #[tr (tf ⟨c,0,th⟩),tv #[Z U 9,tt x,tm y,tm nm,tn z e A,tn th 0 0,tn th 0 0,Z U g,Z U j]] w λe w'=>e= tB (.tuple #[])/\aE w.heap.size w w':=by
 obtain⟨N,o⟩:=zE w.heap.size;obtain⟨W1,q⟩:=zE (w.alloc (tA #[Z U 9,tt x,tm y,tm nm,tn z e A,tn th 0 0,tn th 0 0,Z U g,Z U j] 282));have E:=ik q o;have t:W1.heap[N]?=tf (tA #[Z U 9,tt x,tm y,tm nm,tn z e A,tn th 0 0,tn th 0 0,Z U g,Z U j] 282 (0,0)):=by rw[<-q,<-o];exact alloc_at _ _
 have tG:=ae t;have G:=h.grow (by rw[o];exact E);obtain⟨⟨a0,a1,a2,a3,a4,a5,a6,a7,a8⟩,_,vm⟩:=fe t;have tW:cg (zP 214 #[tr (tf ⟨c,0,th⟩),tm nm] W1 (.tuple #[tv #[tt ti,tm d.ty.2],tt ti])):=by
  have:=kg nm W1 G;unfold oO at this;rw[hl] at this;rw[show D8 (tf d)=d.ty from rfl,hp] at this;exact this
 have tM:cg (∀f W,aE W1.heap.size W1 W->zP 176 #[tr (tf ⟨c,0,th⟩),tt ti,Z U f,tv #[Z U g,Z U j]] W (tt ti)):=λf W hW=>bQ f g j W (G.grow hW);have hst:∀(w:World)(c:dl cw),c.size=2->(dd ⟨w.heap.size,0,th⟩ [tt ti,tm d.ty.2] 0).run am (w.alloc (tA c 32))= .ok () (w.alloc (tA #[tt ti,tm d.ty.2] 32)):=λw c hc=>
  cr (P:=am) w 32 c #[tt ti,tm d.ty.2] (by show _=tf 2;kernel_rfl) hc (by simp[cn])
 have ua:=zH hst;have ub:=zH q;have uc:=zH E;have ud:=zH t;clear h hl hp q E t G hst;go_enter func268,ntmps268
 go_upto_region 1 with(fail)
 rw[ub.out]
 go_upto_region 10 with(go_at_call 214;refine tW.out.mono ?_;rintro e w2 ⟨rfl,tP⟩;have ue:=zH tP;have up:=ua.out w2;clear tP)
 clear up;obtain⟨T,J⟩:=zE w2.heap.size;obtain⟨W3,u⟩:=zE (w2.alloc (tA #[tt ti,tm d.ty.2] 32));rw[J,u];have v:=zD u ue;have K:W3.heap[T]?=tf (tA #[tt ti,tm d.ty.2] 32 (0,0)):=by rw[<-u,<-J];exact alloc_at _ _
 have ur:=ae K;have R:=(v.block N tG).trans ud.out;obtain⟨⟨a0,a1,a2,a3,a4,a5,a6,a7,a8⟩,_,uv⟩:=fe R;have tR:=zH v;have ux:=zH K;have vc:=zH R;have vd:=zH (tM.out 5 W3 v);clear J u v K R
 go_upto_region 11 with(go_at_call 176;refine vd.out.mono ?_;rintro e w4 ⟨rfl,tD⟩;have tE:=zH (tR.out.trans (tD.mono tR.out.size));have tS:=zH tD;clear tD)
 obtain⟨⟨a0,a1,a2,a3,a4,a5,a6,a7,a8⟩,_,vp⟩:=fe ((tS.out.block N uv).trans vc.out);obtain⟨⟨t0,t1⟩,_,vq⟩:=bZ ((tS.out.block T ur).trans ux.out);have vf:=zH (tM.out 7 w4 tE.out)
 go_wp2_with (go_at_call 176;refine vf.out.mono ?_;rintro e w5 ⟨rfl,tU⟩;have vh:=zH (tE.out.trans (tU.mono tE.out.size));clear tU)
 go_end0
 exact⟨rfl,by(try rw[o]);exact uc.out.trans (vh.out.mono (mA tG))⟩
theorem nM {c:bj}{p:Pg}{L:bj}{f0 f1 f2 f3 f4 f5 f6:cw}{sA:cC fg}{sC:bj}{S:bp Fd}(f:aw)(J:f=8\/f=9)(j:ml)(o nm:bl)(q:cC fg)(d t:bj)(u v:aw)(w:World)(h:Ck c p L f0 f1 f2 f3 f4 f5 f6 sA sC S w)
  (A:∀W,aE w.heap.size w W->fj am 268 #[tr (tf ⟨c,0,th⟩),tv #[Z U f,tt j,tm o,tm nm,tn q d t,tn th 0 0,tn th 0 0,Z U u,Z U v]] W λd w'=>d= tB (.tuple #[])/\aE W.heap.size W w'):
  fj am 244 #[tr (tf ⟨c,0,th⟩),tv #[Z U f,tt j,tm o,tm nm,tn q d t,tn th 0 0,tn th 0 0,Z U u,Z U v]] w λd w'=>d= tB (.tuple #[])/\aE w.heap.size w w':=by
 obtain⟨N,g⟩:=zE w.heap.size;obtain⟨W1,x⟩:=zE (w.alloc (tA #[Z U f,tt j,tm o,tm nm,tn q d t,tn th 0 0,tn th 0 0,Z U u,Z U v] 282));have y:=ik x g;have z:W1.heap[N]?=tf (tA #[Z U f,tt j,tm o,tm nm,tn q d t,tn th 0 0,tn th 0 0,Z U u,Z U v] 282 (0,0)):=by rw[<-x,<-g];exact alloc_at _ _
 have K:=ae z;have E:=h.grow (by rw[g];exact y);have R:=zH (dx W1 E);have tD:=zH (A W1 (by rw[g];exact y));obtain⟨⟨a0,a1,a2,a3,a4,a5,a6,a7,a8⟩,_,tP⟩:=fe z;have tE:=zH x;have tG:=zH y;clear h A x y z E;rcases J with rfl|rfl<;>(
  go_enter func244,ntmps244
  go_upto_region 1 with(fail)
  rw[tE.out]
  go_wp2_with (first
   |(go_at_call 178;refine R.out.mono ?_;rintro e W1 ⟨rfl,rfl⟩)
   |(go_at_call 268;refine tD.out.mono ?_;rintro e w2 ⟨rfl,G⟩;have tM:=zH G;clear G))
  go_end0
  exact⟨rfl,by(try rw[g]);exact tG.out.trans (tM.out.mono (mA K))⟩)
theorem rP {α:Type}{f:α->bp cw}{m:bj}(d:0<m)(hf:∀x,(f x).length=m):∀(l:bp α)(j:bj)(u:cw),(l.flatMap f)[j]?=tf u->∃k q x,l[k]?=tf x/\(f x)[q]?=tf u/\j=k*m+q
 |[],j,u,h=>by simp at h
 |y::l,j,u,h=>by
  rw[fm] at h
  by_cases e:j<m
  ·rw[mz (by rw[hf];exact e)] at h
   exact⟨0,j,y,rfl,h,by omega⟩
  ·rw[gA (by rw[hf];omega),hf] at h
   obtain⟨k,q,x,g,o,t⟩:=rP d hf l (j-m) u h;exact⟨k+1,q,x,by simpa using g,o,by rw[rB];omega⟩
theorem lK {α:Type}{f:α->bp cw}{m:bj}(hf:∀x,(f x).length=m):∀l:bp α,(l.flatMap f).length=l.length*m
 |[]=>by simp
 |y::l=>by rw[fm,bm,hf,lK hf l,eh,rB,qr]
theorem AU (S:bp Fd):∀u∈S.flatMap tQ,u.oneCell'=ti:=by
 intro u d;obtain⟨f,_,hf⟩:=iv.1 d
 revert hf;unfold tQ Fd.cells
 simp;rintro(rfl|rfl|rfl|rfl|rfl)<;>rfl
def CK (c:bj)(p:Pg)(L:bj)(f0 f1 f2 f3 f4 f5 f6:cw)(S:bp Fd)(w w':World):Prop:=∃sA sC,Ck c p L f0 f1 f2 f3 f4 f5 f6 sA sC S w'/\Ext (·=c) w w'
theorem lL {W:World}{g:bj}{d e f h j o q v x a9 y z A E G u:cw}{t:fX}(J:W.heap[g]?=tf (tA #[d,e,f,h,j,o,q,v,x,a9,y,z,A,E,G] t (0,0))):
  (W.setCell ⟨g,9,th⟩ u).heap[g]?=tf (tA #[d,e,f,h,j,o,q,v,x,u,y,z,A,E,G] t (0,0)):=bk _ g 9 _ _ u J
theorem yK {c:bj}{p:Pg}{L:bj}{f0 f1 f2 f3 f4 f5 f6:cw}{y:Ty}{sA:cC fg}{sC:bj}{S:bp Fd}{e:Ex}{g cp:bj}(nm:bl)(ln cl:aw)(w:World)(h:Ck c p L f0 f1 f2 f3 f4 f5 f6 sA sC S w)(hy:D9 p S e y)(AF:y=(ti,p.snm))(AH:jL S nm=th)(DB:S.length<=900000)(hg:CJ w g e):
  fj am 244 #[tr (tf ⟨c,0,th⟩),tv #[Z U 1,tt y.1,tm y.2,tm nm,tn (tf ⟨g,0,th⟩) 1 cp,tn th 0 0,tn th 0 0,Z U ln,Z U cl]] w λen w'=>en= tB (.tuple #[])/\CK c p L f0 f1 f2 f3 f4 f5 f6 (S++[⟨nm,y.1,y.2,0,0⟩]) w w':=by
 obtain⟨N,hN⟩:=zE w.heap.size;obtain⟨W1,xF⟩:=zE (w.alloc (tA #[Z U 1,tt y.1,tm y.2,tm nm,tn (tf ⟨g,0,th⟩) 1 cp,tn th 0 0,tn th 0 0,Z U ln,Z U cl] 282));have xT:=ik xF hN;have ya:W1.heap[N]?=tf (tA #[Z U 1,tt y.1,tm y.2,tm nm,tn (tf ⟨g,0,th⟩) 1 cp,tn th 0 0,tn th 0 0,Z U ln,Z U cl] 282 (0,0)):=by rw[<-xF,<-hN];exact alloc_at _ _
 have ud:=ae ya;have h1:=h.grow (by rw[hN];exact xT);have yv:=hg.grow (by rw[hN];exact xT);have DE:=yv.1;have DG:c<N:=by rw[<-hN];exact ae h.row
 have B6:=zH (dx W1 h1);have hst:∀(w:World)(c:dl cw),c.size=2->(dd ⟨w.heap.size,0,th⟩ [tt y.1,tm y.2] 0).run am (w.alloc (tA c 32))= .ok () (w.alloc (tA #[tt y.1,tm y.2] 32)):=λw c hc=>
  cr (P:=am) w 32 c #[tt y.1,tm y.2] (by show _=tf 2;kernel_rfl) hc (by simp[cn])
 have AI:∀(w:World)(c:dl cw),c.size=2->(dd ⟨w.heap.size,0,th⟩ [tt tj,tm ⟨#[]⟩] 0).run am (w.alloc (tA c 32))= .ok () (w.alloc (tA #[tt tj,tm ⟨#[]⟩] 32)):=λw c hc=>
  cr (P:=am) w 32 c #[tt tj,tm ⟨#[]⟩] (by show _=tf 2;kernel_rfl) hc (by simp[cn])
 have B7:=zH hst;have B8:=zH AI;have B9:cg (∀q:BW W1,zP 213 #[tr (tf ⟨c,0,th⟩),tv #[tt y.1,tm y.2]] q.w (tt ti)):=λq=>by
  rw[AF];exact qf p.snm q.w (h1.grow q.h) rfl
 have Cd:cg (∀q:BW W1,zP 176 #[tr (tf ⟨c,0,th⟩),tt ti,Z U 5,tv #[Z U ln,Z U cl]] q.w (tt ti)):=λq=>bQ 5 ln cl q.w (h1.grow q.h);have yy:∀W,aE W1.heap.size W1 W->fj am 265 #[tr (tf ⟨c,0,th⟩),tv e.cells] W λen w'=>en= tB (tv #[tt y.1,tm y.2])/\aE W.heap.size W w':=λW hW=>nL W (h1.grow hW) hy;unfold Ex.cells at yy;have Cl:=zH yy;have Cp:cg (∀W,aE W1.heap.size W1 W->zP 214 #[tr (tf ⟨c,0,th⟩),tm nm] W (.tuple #[tv #[tt tj,tm ⟨#[]⟩],tt tj])):=λW hW=>by
  have:=kg nm W (h1.grow hW);unfold oO at this;rw[AH] at this;exact this
 have AK:cg (∀f a b W,aE W1.heap.size W1 W->zP 176 #[tr (tf ⟨c,0,th⟩),tt ti,Z U f,tv #[Z U a,Z U b]] W (tt ti)):=λf a b W hW=>bQ f a b W (h1.grow hW);obtain⟨⟨a0,a1,a2,a3,a4,a5,a6,a7,a8⟩,_,DH⟩:=fe ya;have H1:=zH h1;have AM:=zH yv;have CA:=zH xF;have yW:=zH xT;have ue:=zH ya;have zc:=h.hc;obtain⟨i0,vq,vr,vt,vu⟩:=m6 Cb;clear h hy AF AH hg xF xT ya h1 yv hst AI yy;go_enter func244,ntmps244
 go_upto_region 1 with(fail)
 rw[CA.out]
 go_upto_region 5 with(go_at_call 178;refine B6.out.mono ?_;rintro e W1 ⟨rfl,rfl⟩)
 clear a0 a1 a2 a3 a4 a5 a6 a7 a8;have x1:∀q:BW W1,q.w.cell? ⟨N,1,th⟩=tf (tt y.1):=λq=>(rowAt ((q.h.block N ud).trans ue.out) 1 rfl).1;have x2:∀q:BW W1,q.w.cell? ⟨N,2,th⟩=tf (tm y.2):=λq=>(rowAt ((q.h.block N ud).trans ue.out) 2 rfl).1;have x7:∀q:BW W1,q.w.cell? ⟨N,7,th⟩=tf (Z U ln):=λq=>(rowAt ((q.h.block N ud).trans ue.out) 7 rfl).1;have x8:∀q:BW W1,q.w.cell? ⟨N,8,th⟩=tf (Z U cl):=λq=>(rowAt ((q.h.block N ud).trans ue.out) 8 rfl).1
 go_cut [3] (λs wc=>s= tr (tf ⟨N,0,th⟩)/\aE W1.heap.size W1 wc)
 case first=>
  refine zQ ?_
  repeat (go_big_quiet_step (first
   |(go_at_call 213;exact bg (B9.out _))
   |(go_at_call 176;exact bg (Cd.out _))))
  refine dr ?_;rintro _ ⟨q,rfl⟩;have o:=q.h;go_wp2
  go_meet
  case rel=>exact⟨rfl,o⟩
 case rest=>
  obtain⟨rfl,J⟩:=hcut;clear x1 x2 x7 x8;have ub:=AM.out.grow J;have AN:=(J.block N ud).trans ue.out;obtain⟨⟨a0,a1,a2,a3,a4,a5,a6,a7,a8⟩,_,DM⟩:=fe AN;have e0:=ub.2 0 _ rfl;have e1:=ub.2 1 _ rfl;have e2:=ub.2 2 _ rfl;have e3:=ub.2 3 _ rfl;have e4:=ub.2 4 _ rfl;have e5:=ub.2 5 _ rfl;have e6:=ub.2 6 _ rfl;have DO:=ub.1;have CC:=zH (Cl.out wc J);have AS:=zH J;clear ub AN J
  go_upto_region 7 with(go_at_call 265;refine CC.out.mono ?_;rintro en w5 ⟨rfl,AT⟩;have CD:=zH (AS.out.trans (AT.mono AS.out.size));have CH:=B7.out w5;clear AT)
  clear CH;obtain⟨T,hT⟩:=zE w5.heap.size;obtain⟨W6,yb⟩:=zE (w5.alloc (tA #[tt y.1,tm y.2] 32));rw[hT,yb];have vx:=zD yb CD;have yd:W6.heap[T]?=tf (tA #[tt y.1,tm y.2] 32 (0,0)):=by rw[<-yb,<-hT];exact alloc_at _ _
  have AW:=ae yd;have zd:=AM.out.grow vx;have vy:=(vx.block N ud).trans ue.out;have ye:=ae vy;have t0:∀q:BW W6,q.w.cell? ⟨T,0,th⟩=tf (tt y.1):=λq=>(rowAt ((q.h.block T AW).trans yd) 0 rfl).1;have t1:∀q:BW W6,q.w.cell? ⟨T,1,th⟩=tf (tm y.2):=λq=>(rowAt ((q.h.block T AW).trans yd) 1 rfl).1;have x1:∀q:BW W6,q.w.cell? ⟨N,1,th⟩=tf (tt y.1):=λq=>(rowAt ((q.h.block N ye).trans vy) 1 rfl).1;have x2:∀q:BW W6,q.w.cell? ⟨N,2,th⟩=tf (tm y.2):=λq=>(rowAt ((q.h.block N ye).trans vy) 2 rfl).1;have x4:∀q:BW W6,q.w.cell? ⟨N,4,th⟩=tf (tn (tf ⟨g,0,th⟩) 1 cp):=λq=>(rowAt ((q.h.block N ye).trans vy) 4 rfl).1;have g5:∀q:BW W6,q.w.cell? ⟨g,5,th⟩=tf (Z U e.ln):=λq=>(zd.grow q.h).2 5 _ rfl;have g6:∀q:BW W6,q.w.cell? ⟨g,6,th⟩=tf (Z U e.cl):=λq=>(zd.grow q.h).2 6 _ rfl;have CM:cg (∀q:BW W6,zP 176 #[tr (tf ⟨c,0,th⟩),tt ti,Z U 7,tv #[Z U e.ln,Z U e.cl]] q.w (tt ti)):=λq=>AK.out 7 e.ln e.cl q.w (vx.trans (q.h.mono vx.size));have A1:=zH vx;have CN:=zH vy;clear hT yb vx yd zd vy a0 a1 a2 a3 a4 a5 a6 a7 a8 e0 e1 e2 e3 e4 e5 e6
  go_cut [3] (λs wd=>s= tr (tf ⟨N,0,th⟩)/\aE W6.heap.size W6 wd)
  case first=>
   refine zQ ?_
   repeat (go_big_quiet_step (first
    |(go_at_call 266;exact bg (qd _ _ _))
    |(go_at_call 176;exact bg (CM.out _))))
   refine dr ?_;rintro _ ⟨q,rfl⟩;have o:=q.h;clear t0 t1 x1 x2 x4 g5 g6;go_wp2
   go_meet
   case rel=>exact⟨rfl,o⟩
  case rest=>
   clear t0 t1 x1 x2 x4 g5 g6;obtain⟨rfl,zj⟩:=hcut;have zp:=A1.out.trans (zj.mono A1.out.size);have zr:=(zj.block N ye).trans CN.out;obtain⟨⟨a0,a1,a2,a3,a4,a5,a6,a7,a8⟩,_,DP⟩:=fe zr;have CT:=zH (Cp.out _ zp);have A2:=zH zp;have DQ:=zH zr;clear zj zp zr
   go_upto_region 9 with(go_at_call 214;refine CT.out.mono ?_;rintro en w7 ⟨rfl,A3⟩;have C4:=zH (A2.out.trans (A3.mono A2.out.size));have C5:=B8.out w7;clear A3)
   clear C5;obtain⟨W8,zs⟩:=zE (w7.alloc (tA #[tt tj,tm ⟨#[]⟩] 32));rw[zs];have yi:=zD zs C4;have A4:=(yi.block N ud).trans ue.out;obtain⟨⟨a0,a1,a2,a3,a4,a5,a6,a7,a8⟩,_,DS⟩:=fe A4;have C6:=zH (AK.out 6 ln cl W8 yi);have A5:=zH yi;clear zs yi A4
   go_upto_region 10 with(go_at_call 176;refine C6.out.mono ?_;rintro en v ⟨rfl,A6⟩;have up:=zH (A5.out.trans (A6.mono A5.out.size));clear A6)
   have hD:=H1.out.grow up.out;have zv:=(up.out.block N ud).trans ue.out;obtain⟨B,hB⟩:=zE v.heap.size;have C7:N<B:=by rw[<-hB];exact ae zv
   have yk:c<B:=by omega
   obtain⟨ST,Bk⟩:=zE ((λw'=>aE B v w'):World->Prop);have yp:∀w,ST w↔aE B v w:=λw=>by rw[<-Bk]
   have tG:=zH yp;have yq:=zH hD.row;have Dd:=zH zv;have Bm:=zH hD.seen;have Bs:∀w,ST w->w.cell? ⟨c,9,th⟩=tf (tn sA S.length sC)/\w.cell? ⟨N,3,th⟩=tf (tm nm)/\w.cell? ⟨N,1,th⟩=tf (tt y.1)/\w.cell? ⟨N,2,th⟩=tf (tm y.2)/\c<w.heap.size/\w.frozen? ⟨c,9,th⟩=tj:=λw hw=>by
    have hb:=(yp w).1 hw;have r1:=(hb.block c yk).trans yq.out;have r2:=(hb.block N C7).trans Dd.out;exact⟨(rowAt r1 9 rfl).1,(rowAt r2 3 rfl).1,(rowAt r2 1 rfl).1,(rowAt r2 2 rfl).1,ae r1,(rowAt r1 9 rfl).2⟩
   have A:=zH Bs;obtain⟨wE,An⟩:=zE v.drew;have Dg:ST wE:=(yp _).2 (by rw[<-An,<-hB];exact(aq _ _).drew);have HD:=zH hD;have z:=zH hB;clear Bk yp Bs hD zv hB a0 a1 a2 a3 a4 a5 a6 a7 a8;have we:cg (∀w,ST w->(sA=th->S.length=0)/\∀ad,sA=tf ad->∀j u,(S.flatMap tQ)[j]?=tf u->w.cell? (ad.add j)=tf u):=λw hw=>by
    have hb:=(tG.out w).1 hw;constructor
    ·intro At
     rcases Nat.eq_zero_or_pos S.length with h|h
     ·exact h
     ·obtain⟨b,By,h1,_⟩:=Bm.out (kq.1 h)
      rw[At] at h1;cases h1
    ·intro ad At j u hu
     have Do:S≠[]:=by intro e;rw[e] at hu;simp at hu
     obtain⟨b,By,h1,h2,h3⟩:=Bm.out Do;rw[At] at h1;obtain rfl:=cy h1;obtain⟨k,q,x,hx,o,rfl⟩:=rP (f:=tQ) (m:=5) (by decide) (λ_=>rfl) S j u hu;rw[cU,hb.cell (p:=⟨b,By+(k*5+q),th⟩) (by show b<B;rw[<-z.out];exact h2),<-Nat.add_assoc];exact h3 k x hx q u o
   refine aj 16 ST (by kernel_rfl) ?_;rw[An];clear An;refine zT 0 rfl A.out ?_
   try go_simp
   refine zT 2 rfl A.out ?_
   try go_simp
   refine zT 3 rfl A.out ?_
   try go_simp
   refine zT 4 rfl A.out ?_
   try go_simp
   refine zT 5 rfl A.out ?_
   try go_simp
   refine zT 7 rfl A.out ?_
   try go_simp
   refine zT 8 rfl A.out ?_
   try go_simp
   refine zT 9 rfl A.out ?_
   try go_simp
   refine zT 10 rfl A.out ?_
   try go_simp
   refine zT 11 rfl A.out ?_
   try go_simp
   have wg:aE B v wE:=(tG.out _).1 Dg;refine kT (i:=1) (j:=12) (by kernel_rfl) (by decide) (by decide) rfl rfl (λK' d=> ?_) (λK' d=> ?_)
   ·rw[cH (by rfl)]
    go_simp;obtain⟨Wa,tU⟩:=zE (wE.alloc (tA #[] 92));obtain⟨R,tM⟩:=zE wE.heap.size;have wj:aE B v Wa:=by rw[<-tU];exact wg.alloc (by have:=wg.size;rw[z.out] at this;exact this) _
    have uc:=wj;have vh:ST Wa:=(tG.out _).2 wj;have Ax:B<=R:=by rw[<-tM];have:=wg.size;rw[z.out] at this;exact this
    have AD:cg (Wa.heap.size=R+1):=by unfold cg;rw[<-tU];simp[tM]
    have yr:Wa.ownsRow B 92 5 (tn (tf ⟨R,0,th⟩) 0 0) 0 []:=by rw[<-tU,<-tM];exact gK _ _ _ _ (by rw[tM];exact Ax)
    try rw[tU]
    try rw[tM]
    refine d _ _ vh ?_;clear d
    try go_simp
    refine kT (i:=6) (j:=12) (by kernel_rfl) (by decide) (by decide) rfl rfl (λK' d=> ?_) (λK' d=> ?_)
    ·rw[cH (by rfl)]
     refine aG (.tmp 64) (.tmp 68) 88 rfl B 92 i0 _ 5 56 gR vq vr vt vu rfl (by decide) (tn (tf ⟨R,0,th⟩) 0 0) 0 [] rfl yr sA S.length sC (S.flatMap tQ) rfl (lK (f:=tQ) (λ_=>rfl) S) (we.out _ vh).1 (we.out _ vh).2 (AU S) (by unfold du;omega) (by omega) (by have:=uc.size;rw[z.out] at this;exact this) ?_;intro vb Wb tW vm BE;have ur:aE B v Wb:=uc.trans ((Ext.of_grown (M:=λq=>tf R=tf q) vm (λq o=> .inl o)).below (by have:=uc.size;rw[z.out] at this;exact this) (λq o=>by have:=cy o;omega));have ua:=ur;have wk:ST Wb:=(tG.out _).2 ur;rw[cI,eK] at tW;refine d _ _ wk ?_;clear d
     try go_simp
     refine zO 12 rfl λK' d=> ?_;go_simp;obtain⟨E,tD⟩:=zE (Wb.alloc (tA #[tm nm,tt y.1,tm y.2,Z U 0,Z U 0] 92));obtain⟨G,J⟩:=zE Wb.heap.size;have uv:aE B v E:=by rw[<-tD];exact ua.alloc (by have:=ua.size;rw[z.out] at this;exact this) _
     have tP:=uv;have vp:ST E:=(tG.out _).2 uv;have wl:cg (E.heap.size=G+1):=by unfold cg;rw[<-tD];simp[J]
     have ws:E.heap[G]?=tf (tA #[tm nm,tt y.1,tm y.2,Z U 0,Z U 0] 92 (0,0)):=by rw[<-tD,<-J];exact alloc_at _ _
     try rw[tD]
     try rw[J]
     refine d _ _ vp ?_;clear d
     try go_simp
     have BT:E.ownsRow B 92 5 vb S.length (S.flatMap tQ):=by rw[<-tD];exact ownsRow_below tW ((aq _ _).alloc (cd _) _)
     refine zO 13 rfl λK' d=> ?_;refine aG (.tmp 69) (.tmp 75) 88 rfl B 92 i0 _ 5 56 gR vq vr vt vu rfl (by decide) vb S.length (S.flatMap tQ) rfl BT (tf ⟨G,0,th⟩) 1 1 [tm nm,tt y.1,tm y.2,Z U 0,Z U 0] rfl rfl (λh=>by cases h) (λad xf jj uu hu=>by
      obtain rfl:(⟨G,0,th⟩:fg)=ad:=by simpa using xf
      rw[cU,cI,bt _ _ _ _ _ _ ws];simpa using hu) (by simp[cn]) (by unfold du;omega) (by omega) (by have:=tP.size;rw[z.out] at this;exact this) ?_
     intro vz t ux xj BY;obtain⟨K,cz,xl,B4,B5⟩:=fq ux;subst xl;have tE:aE B v t:=tP.trans ((Ext.of_grown (M:=λq=>vb.ownBlock=tf q) xj (λq o=> .inl o)).below (by have:=tP.size;rw[z.out] at this;exact this) (λq o=>(ai BT o).1));have vc:ST t:=(tG.out _).2 tE;refine d _ _ vc ?_;clear d
     try go_simp
     refine zT 14 rfl A.out ?_
     try go_simp
     refine zT 15 rfl A.out ?_
     try go_simp
     obtain⟨s1,s2,s3,s4,s5,s6⟩:=A.out t vc;refine zK rfl λK' d=> ?_;go_simp;refine d _ _ ?_;clear d;refine⟨by kernel_rfl, ?_⟩;have xo:=(tE.block c yk).trans yq.out;have vd:CK c p L f0 f1 f2 f3 f4 f5 f6 (S++[⟨nm,y.1,y.2,0,0⟩]) w (t.setCell ⟨c,9,th⟩ (tn (tf ⟨K,0,th⟩) (S.length+1) cz)):=by
      have tR:Ext (·=c) t (t.setCell ⟨c,9,th⟩ (tn (tf ⟨K,0,th⟩) (S.length+1) cz)):=Ext.set1 t c 9 _;have tS:(S++[(⟨nm,y.1,y.2,0,0⟩:Fd)]).length=S.length+1:=by rw[bm];rfl
      have xp:=(HD.out.pg.ext (Ext.of_below_size (M:=λ_=>lj) (show aE v.heap.size v t by rw[z.out];exact tE)) (λ_ _ h=>h)).ext tR (λk hk e=>by omega);have vf:t.ownsRow B 92 5 (tn (tf ⟨K,0,th⟩) (S.length+1) cz) (S.length+1) ((S++[(⟨nm,y.1,y.2,0,0⟩:Fd)]).flatMap tQ):=by rw[fS];exact ux
      have xr:=ah vf tR (λq o e=>by have:=(ai vf o).1;omega);refine⟨tf ⟨K,0,th⟩,cz,⟨?_,xp,zc, ?_,by rw[tS];omega, ?_⟩, ?_⟩
      ·rw[tS];exact lL xo
      ·exact eO (cells:=Fd.cells) (m:=5) (λ_=>rfl) xr tS.symm
      ·intro a _ ha e
       obtain rfl:=cy ha;have:K=c:=e;omega
      ·exact((Ext.of_below_size (M:=(·=c)) (show aE w.heap.size w W1 by rw[hN];exact yW.out)).trans (Ext.of_below_size (M:=(·=c)) (up.out.trans ((show aE v.heap.size v t by rw[z.out];exact tE).mono up.out.size))) (λk hk=> .inl hk)).trans tR (λk hk=> .inl hk)
     have xt:=zH vd;clear vd;go_wp2
     go_end0
     exact⟨rfl,xt.out⟩
    ·rw[cH (by rfl)]
     go_simp;obtain⟨E,tD⟩:=zE (Wa.alloc (tA #[tm nm,tt y.1,tm y.2,Z U 0,Z U 0] 92));obtain⟨G,J⟩:=zE Wa.heap.size;have uv:aE B v E:=by rw[<-tD];exact uc.alloc (by have:=uc.size;rw[z.out] at this;exact this) _
     have tP:=uv;have vp:ST E:=(tG.out _).2 uv;have wl:cg (E.heap.size=G+1):=by unfold cg;rw[<-tD];simp[J]
     have ws:E.heap[G]?=tf (tA #[tm nm,tt y.1,tm y.2,Z U 0,Z U 0] 92 (0,0)):=by rw[<-tD,<-J];exact alloc_at _ _
     try rw[tD]
     try rw[J]
     refine d _ _ vp ?_;clear d
     try go_simp
     have Ds:E.ownsRow B 92 5 (tn (tf ⟨R,0,th⟩) 0 0) 0 []:=by rw[<-tD];exact ownsRow_below yr ((aq _ _).alloc (cd _) _)
     refine zO 6 rfl λK' d=> ?_;refine aG (.tmp 64) (.tmp 68) 88 rfl B 92 i0 _ 5 56 gR vq vr vt vu rfl (by decide) (tn (tf ⟨R,0,th⟩) 0 0) 0 [] rfl Ds sA S.length sC (S.flatMap tQ) rfl (lK (f:=tQ) (λ_=>rfl) S) (we.out _ vp).1 (we.out _ vp).2 (AU S) (by unfold du;omega) (by omega) (by have:=tP.size;rw[z.out] at this;exact this) ?_;intro vb Wb tW vm BE;have ur:aE B v Wb:=tP.trans ((Ext.of_grown (M:=λq=>tf R=tf q) vm (λq o=> .inl o)).below (by have:=tP.size;rw[z.out] at this;exact this) (λq o=>by have:=cy o;omega));have ua:=ur;have wk:ST Wb:=(tG.out _).2 ur;rw[cI,eK] at tW;refine d _ _ wk ?_;clear d
     try go_simp
     have AE:Wb.heap[G]?=tf (tA #[tm nm,tt y.1,tm y.2,Z U 0,Z U 0] 92 (0,0)):=(Ext.of_grown (M:=λq=>tf R=tf q) vm (λq o=> .inl o)).heap ws (by intro h;have:=cy h;have:=AD.out;have:=wl.out;omega);refine zO 13 rfl λK' d=> ?_;refine aG (.tmp 69) (.tmp 75) 88 rfl B 92 i0 _ 5 56 gR vq vr vt vu rfl (by decide) vb S.length (S.flatMap tQ) rfl tW (tf ⟨G,0,th⟩) 1 1 [tm nm,tt y.1,tm y.2,Z U 0,Z U 0] rfl rfl (λh=>by cases h) (λad xf jj uu hu=>by
      obtain rfl:(⟨G,0,th⟩:fg)=ad:=by simpa using xf
      rw[cU,cI,bt _ _ _ _ _ _ AE];simpa using hu) (by simp[cn]) (by unfold du;omega) (by omega) (by have:=ua.size;rw[z.out] at this;exact this) ?_
     intro vz t ux xj BY;obtain⟨K,cz,xl,B4,B5⟩:=fq ux;subst xl;have tE:aE B v t:=ua.trans ((Ext.of_grown (M:=λq=>vb.ownBlock=tf q) xj (λq o=> .inl o)).below (by have:=ua.size;rw[z.out] at this;exact this) (λq o=>(ai tW o).1));have vc:ST t:=(tG.out _).2 tE;refine d _ _ vc ?_;clear d
     try go_simp
     refine zT 14 rfl A.out ?_
     try go_simp
     refine zT 15 rfl A.out ?_
     try go_simp
     obtain⟨s1,s2,s3,s4,s5,s6⟩:=A.out t vc;refine zK rfl λK' d=> ?_;go_simp;refine d _ _ ?_;clear d;refine⟨by kernel_rfl, ?_⟩;have xo:=(tE.block c yk).trans yq.out;have vd:CK c p L f0 f1 f2 f3 f4 f5 f6 (S++[⟨nm,y.1,y.2,0,0⟩]) w (t.setCell ⟨c,9,th⟩ (tn (tf ⟨K,0,th⟩) (S.length+1) cz)):=by
      have tR:Ext (·=c) t (t.setCell ⟨c,9,th⟩ (tn (tf ⟨K,0,th⟩) (S.length+1) cz)):=Ext.set1 t c 9 _;have tS:(S++[(⟨nm,y.1,y.2,0,0⟩:Fd)]).length=S.length+1:=by rw[bm];rfl
      have xp:=(HD.out.pg.ext (Ext.of_below_size (M:=λ_=>lj) (show aE v.heap.size v t by rw[z.out];exact tE)) (λ_ _ h=>h)).ext tR (λk hk e=>by omega);have vf:t.ownsRow B 92 5 (tn (tf ⟨K,0,th⟩) (S.length+1) cz) (S.length+1) ((S++[(⟨nm,y.1,y.2,0,0⟩:Fd)]).flatMap tQ):=by rw[fS];exact ux
      have xr:=ah vf tR (λq o e=>by have:=(ai vf o).1;omega);refine⟨tf ⟨K,0,th⟩,cz,⟨?_,xp,zc, ?_,by rw[tS];omega, ?_⟩, ?_⟩
      ·rw[tS];exact lL xo
      ·exact eO (cells:=Fd.cells) (m:=5) (λ_=>rfl) xr tS.symm
      ·intro a _ ha e
       obtain rfl:=cy ha;have:K=c:=e;omega
      ·exact((Ext.of_below_size (M:=(·=c)) (show aE w.heap.size w W1 by rw[hN];exact yW.out)).trans (Ext.of_below_size (M:=(·=c)) (up.out.trans ((show aE v.heap.size v t by rw[z.out];exact tE).mono up.out.size))) (λk hk=> .inl hk)).trans tR (λk hk=> .inl hk)
     have xt:=zH vd;clear vd;go_wp2
     go_end0
     exact⟨rfl,xt.out⟩
   ·rw[cH (by rfl)]
    go_simp;obtain⟨E,tD⟩:=zE (wE.alloc (tA #[tm nm,tt y.1,tm y.2,Z U 0,Z U 0] 92));obtain⟨G,J⟩:=zE wE.heap.size;have uv:aE B v E:=by rw[<-tD];exact wg.alloc (by have:=wg.size;rw[z.out] at this;exact this) _
    have tP:=uv;have vp:ST E:=(tG.out _).2 uv;have wl:cg (E.heap.size=G+1):=by unfold cg;rw[<-tD];simp[J]
    have ws:E.heap[G]?=tf (tA #[tm nm,tt y.1,tm y.2,Z U 0,Z U 0] 92 (0,0)):=by rw[<-tD,<-J];exact alloc_at _ _
    try rw[tD]
    try rw[J]
    refine d _ _ vp ?_;clear d
    try go_simp
    refine zO 1 rfl λK' d=> ?_;go_simp;obtain⟨Wa,tU⟩:=zE (E.alloc (tA #[] 92));obtain⟨R,tM⟩:=zE E.heap.size;have wj:aE B v Wa:=by rw[<-tU];exact tP.alloc (by have:=tP.size;rw[z.out] at this;exact this) _
    have uc:=wj;have vh:ST Wa:=(tG.out _).2 wj;have Ax:B<=R:=by rw[<-tM];have:=tP.size;rw[z.out] at this;exact this
    have AD:cg (Wa.heap.size=R+1):=by unfold cg;rw[<-tU];simp[tM]
    have yr:Wa.ownsRow B 92 5 (tn (tf ⟨R,0,th⟩) 0 0) 0 []:=by rw[<-tU,<-tM];exact gK _ _ _ _ (by rw[tM];exact Ax)
    try rw[tU]
    try rw[tM]
    refine d _ _ vh ?_;clear d
    try go_simp
    have DA:Wa.heap[G]?=tf (tA #[tm nm,tt y.1,tm y.2,Z U 0,Z U 0] 92 (0,0)):=by rw[<-tU];exact(cE _ _ G (by have:=wl.out;omega)).trans ws
    refine zO 6 rfl λK' d=> ?_;refine aG (.tmp 64) (.tmp 68) 88 rfl B 92 i0 _ 5 56 gR vq vr vt vu rfl (by decide) (tn (tf ⟨R,0,th⟩) 0 0) 0 [] rfl yr sA S.length sC (S.flatMap tQ) rfl (lK (f:=tQ) (λ_=>rfl) S) (we.out _ vh).1 (we.out _ vh).2 (AU S) (by unfold du;omega) (by omega) (by have:=uc.size;rw[z.out] at this;exact this) ?_;intro vb Wb tW vm BE;have ur:aE B v Wb:=uc.trans ((Ext.of_grown (M:=λq=>tf R=tf q) vm (λq o=> .inl o)).below (by have:=uc.size;rw[z.out] at this;exact this) (λq o=>by have:=cy o;omega));have ua:=ur;have wk:ST Wb:=(tG.out _).2 ur;rw[cI,eK] at tW;refine d _ _ wk ?_;clear d
    try go_simp
    have AE:Wb.heap[G]?=tf (tA #[tm nm,tt y.1,tm y.2,Z U 0,Z U 0] 92 (0,0)):=(Ext.of_grown (M:=λq=>tf R=tf q) vm (λq o=> .inl o)).heap DA (by intro h;have:=cy h;have:=AD.out;have:=wl.out;omega);refine zO 13 rfl λK' d=> ?_;refine aG (.tmp 69) (.tmp 75) 88 rfl B 92 i0 _ 5 56 gR vq vr vt vu rfl (by decide) vb S.length (S.flatMap tQ) rfl tW (tf ⟨G,0,th⟩) 1 1 [tm nm,tt y.1,tm y.2,Z U 0,Z U 0] rfl rfl (λh=>by cases h) (λad xf jj uu hu=>by
     obtain rfl:(⟨G,0,th⟩:fg)=ad:=by simpa using xf
     rw[cU,cI,bt _ _ _ _ _ _ AE];simpa using hu) (by simp[cn]) (by unfold du;omega) (by omega) (by have:=ua.size;rw[z.out] at this;exact this) ?_
    intro vz t ux xj BY;obtain⟨K,cz,xl,B4,B5⟩:=fq ux;subst xl;have tE:aE B v t:=ua.trans ((Ext.of_grown (M:=λq=>vb.ownBlock=tf q) xj (λq o=> .inl o)).below (by have:=ua.size;rw[z.out] at this;exact this) (λq o=>(ai tW o).1));have vc:ST t:=(tG.out _).2 tE;refine d _ _ vc ?_;clear d
    try go_simp
    refine zT 14 rfl A.out ?_
    try go_simp
    refine zT 15 rfl A.out ?_
    try go_simp
    obtain⟨s1,s2,s3,s4,s5,s6⟩:=A.out t vc;refine zK rfl λK' d=> ?_;go_simp;refine d _ _ ?_;clear d;refine⟨by kernel_rfl, ?_⟩;have xo:=(tE.block c yk).trans yq.out;have vd:CK c p L f0 f1 f2 f3 f4 f5 f6 (S++[⟨nm,y.1,y.2,0,0⟩]) w (t.setCell ⟨c,9,th⟩ (tn (tf ⟨K,0,th⟩) (S.length+1) cz)):=by
     have tR:Ext (·=c) t (t.setCell ⟨c,9,th⟩ (tn (tf ⟨K,0,th⟩) (S.length+1) cz)):=Ext.set1 t c 9 _;have tS:(S++[(⟨nm,y.1,y.2,0,0⟩:Fd)]).length=S.length+1:=by rw[bm];rfl
     have xp:=(HD.out.pg.ext (Ext.of_below_size (M:=λ_=>lj) (show aE v.heap.size v t by rw[z.out];exact tE)) (λ_ _ h=>h)).ext tR (λk hk e=>by omega);have vf:t.ownsRow B 92 5 (tn (tf ⟨K,0,th⟩) (S.length+1) cz) (S.length+1) ((S++[(⟨nm,y.1,y.2,0,0⟩:Fd)]).flatMap tQ):=by rw[fS];exact ux
     have xr:=ah vf tR (λq o e=>by have:=(ai vf o).1;omega);refine⟨tf ⟨K,0,th⟩,cz,⟨?_,xp,zc, ?_,by rw[tS];omega, ?_⟩, ?_⟩
     ·rw[tS];exact lL xo
     ·exact eO (cells:=Fd.cells) (m:=5) (λ_=>rfl) xr tS.symm
     ·intro a _ ha e
      obtain rfl:=cy ha;have:K=c:=e;omega
     ·exact((Ext.of_below_size (M:=(·=c)) (show aE w.heap.size w W1 by rw[hN];exact yW.out)).trans (Ext.of_below_size (M:=(·=c)) (up.out.trans ((show aE v.heap.size v t by rw[z.out];exact tE).mono up.out.size))) (λk hk=> .inl hk)).trans tR (λk hk=> .inl hk)
    have xt:=zH vd;clear vd;go_wp2
    go_end0
    exact⟨rfl,xt.out⟩
def oP (p:Pg)(y:Ty)(S:bp Fd)(s:Sm)(d:bp Fd):Prop:=
 (s.kind=8/\∃e,s.es=[e]/\D9 p S e y/\d=S)\/(s.kind=9/\∃f,jL S s.nm=tf f/\f.ty.1=ti/\d=S)\/
 (s.kind=1/\∃e,s.es=[e]/\D9 p S e s.ty/\s.ty=(ti,p.snm)/\jL S s.nm=th/\d=S++[⟨s.nm,s.ty.1,s.ty.2,0,0⟩])
theorem Ck.mv {c:bj}{p:Pg}{L:bj}{f0 f1 f2 f3 f4 f5 f6:cw}{sA:cC fg}{sC:bj}{S:bp Fd}{w w':World}(h:Ck c p L f0 f1 f2 f3 f4 f5 f6 sA sC S w)(hb:aE w.heap.size w w'):CK c p L f0 f1 f2 f3 f4 f5 f6 S w w':=
 ⟨sA,sC,h.grow hb,Ext.of_below_size hb⟩
theorem jh.sm {p:Pg}{L:bj}{w:World}(h:jh p L w){s:Sm}(q:s∈p.ss):(∃ao n cp,s.E= tn ao n cp)/\∀e,s.es=[e]->∃g cp,s.E= tn (tf ⟨g,0,th⟩) 1 cp/\CJ w g e:=by
 rcases h.ex s q with⟨d,o⟩|⟨g,cap,d,o,t⟩
 ·exact⟨⟨_,_,_,o⟩,λe f=>by rw[f] at d;cases d⟩
 ·refine⟨⟨_,_,_,d⟩,λe f=>⟨g,cap,by rw[d,f];rfl,cD o h.lo,λj u v=> ?_⟩⟩
  have:=t 0 e (by rw[f];rfl) j u v;simpa using this
theorem wX {c:bj}{p:Pg}{L:bj}{f0 f1 f4 f5 f6:cw}{y:Ty}{sA:cC fg}{sC:bj}{S z:bp Fd}{s:Sm}(w:World)(h:Ck c p L f0 f1 (tt y.1) (tm y.2) f4 f5 f6 sA sC S w)(E:s∈p.ss)(G:oP p y S s z)(J:S.length<=900000):
  fj am 244 #[tr (tf ⟨c,0,th⟩),tv s.cells] w λq w'=>q= tB (.tuple #[])/\CK c p L f0 f1 (tt y.1) (tm y.2) f4 f5 f6 z w w':=by
 obtain⟨⟨ao,n,cp,K⟩,A⟩:=h.pg.sm E;rcases G with⟨d,e,f,j,rfl⟩|⟨d,fd,f,j,rfl⟩|⟨d,e,f,j,R,h5,rfl⟩
 ·obtain⟨g,cp,t,u⟩:=A e f
  unfold Sm.cells;rw[d,t];refine(nM 8 (.inl rfl) s.ty.1 s.ty.2 s.nm (tf ⟨g,0,th⟩) 1 cp s.ln s.cl w h (λW o=>yJ s.ty.1 s.ty.2 s.nm s.ln s.cl W (h.grow o) j (u.grow o))).mono ?_;rintro q w' ⟨v,x⟩;exact⟨v,h.mv x⟩
 ·unfold Sm.cells
  rw[d,K];refine(nM 9 (.inr rfl) s.ty.1 s.ty.2 s.nm ao n cp s.ln s.cl w h (λW o=>wW s.ty.1 s.ty.2 s.nm ao n cp s.ln s.cl W (h.grow o) f j)).mono ?_;rintro q w' ⟨v,x⟩;exact⟨v,h.mv x⟩
 ·obtain⟨g,cp,t,u⟩:=A e f
  unfold Sm.cells;rw[d,t];exact yK s.nm s.ln s.cl w h j R h5 J u
inductive iG (p:Pg) (y:Ty):bp Fd->bp Sm->Prop
 |nil (S:bp Fd):iG p y S []
 |cons (S S1:bp Fd) (s:Sm) (l:bp Sm):oP p y S s S1->iG p y S1 l->iG p y S (s::l)
theorem oP.kind {p:Pg}{y:Ty}{S d:bp Fd}{s:Sm}(h:oP p y S s d):s.plainK:=by
 rcases h with h|h|h
 ·exact .inr (.inr (.inl h.1))
 ·exact .inr (.inr (.inr h.1))
 ·exact .inl h.1
theorem iG.kinds {p:Pg}{y:Ty}{S:bp Fd}{l:bp Sm}(h:iG p y S l):∀s∈l,s.plainK:=by
 induction h with
 |nil=>simp
 |cons S f s l e _ ih=>intro x d;rcases fW.1 d with rfl|d;exact e.kind;exact ih x d
theorem oP.len {p:Pg}{y:Ty}{S d:bp Fd}{s:Sm}(h:oP p y S s d):d.length<=S.length+1:=by
 rcases h with⟨_,_,_,_,rfl⟩|⟨_,_,_,_,rfl⟩|⟨_,_,_,_,_,_,rfl⟩
 ·omega
 ·omega
 ·rw[bm];simp
def GV (c:bj)(p:Pg)(L:bj)(f0 f1 f4 f5 f6:cw)(y:Ty)(w:World)(k:cw)(wr:World):Prop:=
 ∃(j:bj) (S:bp Fd) (sA:cC fg) (sC:bj),k= Z U (j:aw)/\j<=p.ss.length/\S.length<=j/\iG p y S (p.ss.drop j)/\Ck c p L f0 f1 (tt y.1) (tm y.2) f4 f5 f6 sA sC S wr/\Ext (·=c) w wr
theorem uo {c:bj}{p:Pg}{L:bj}{f0 f1 f4 f5 f6:cw}{y:Ty}(w:World)(h:Ck c p L f0 f1 (tt y.1) (tm y.2) f4 f5 f6 th 0 [] w)(K:iG p y [] p.ss)(we:p.ss.length<=1000)(tR:∀j,j<p.ss.length->(p.ss.take j).any gT=tj)(tS:p.ss≠[]):
  fj am 215 #[tr (tf ⟨c,0,th⟩),tn p.bA p.ss.length p.bC] w λen w'=>en= tB (.tuple #[])/\Ck c p L f0 f1 (tt y.1) (tm y.2) f4 f5 f6 th 0 [] w'/\Ext (·=c) w w':=by
 obtain⟨b,A,hA,wg,_⟩:=h.pg.st tS;have ur:=h.hc;have uv:=ae h.row;have c9:w.cell? ⟨c,9,th⟩=tf (tn th 0 0):=(rowAt h.row 9 rfl).1;have H:=zH h;have HA:=zH hA;have ux:=zH tR;have HK:=zH K;have wj:c<w.heap.size:=uv;rw[hA];have vc:cg (∀sA sC S W,Ck c p L f0 f1 (tt y.1) (tm y.2) f4 f5 f6 sA sC S W->zS 178 #[tr (tf ⟨c,0,th⟩)] W (tt tj)):=λsA sC S W hW=>dx W hW;have vd:cg (∀s∈p.ss,s.plainK):=K.kinds;clear h hA K tR tS;go_enter func215,ntmps215
 go_upto_region 2 with(fail)
 clear c9
 go_loopw [5] (λk wr=>GV c p L f0 f1 f4 f5 f6 y w k wr) (λk _=>p.ss.length-(dp k).toNat)
 case atStart=>exact⟨0,[],th,0,rfl,cM _,cd _,HK.out,H.out,Ext.refl _ _⟩
 case round=>
  obtain⟨j,S,sA,sC,rfl,hj,wk,tD,t,f⟩:=hrel;have tE:=zH t;have HX:=zH f;have vf:=zH (vc.out sA sC S wr t)
  by_cases v:j<p.ss.length
  ·have wl:(j:aw)<(p.ss.length:aw):=by omega
   obtain⟨s,E⟩:∃s,p.ss[j]?=tf s:=⟨_,ap v⟩
   have tU:p.ss.drop j=s::p.ss.drop (j+1):=by
    rw[ij v];have:p.ss[j]=s:=by rw[ap v] at E;exact cy E
    rw[this]
   rw[tU] at tD;cases tD with
   |cons _ S1 _ _ hst tW=>
    have tG:=ci E;obtain⟨⟨ao,n,cp,z⟩,_⟩:=t.pg.sm tG;have G:∀W,aE wr.heap.size wr W->(∀(i:bj)(x:Sm),p.ss[i]?=tf x->∀(k:bj)(u:cw),x.cells.toList[k]?=tf u->W.cell? ⟨b,A+i*9+k,th⟩=tf u)/\b<W.heap.size:=λW hW=>by
     have ua:=(t.grow hW).pg;obtain⟨b',ws,J,h2,h3⟩:=ua.st (by intro e;rw[e] at v;simp at v);rw[HA.out] at J;simp only[dj,eV,and_true] at J;rw[<-J.1] at h2 h3;rw[<-J.2] at h3;exact⟨h3,cD h2 ua.lo⟩
    have tM:(p.ss.take j).length=j:=by rw[ee];omega
    have vh:cg (∀q:BW wr,zP 216 #[tn (tf ⟨b,A,th⟩) j p.bC] q.w (tt tj)):=λq=>by
     have:=mq b A p.bC (p.ss.take j) (by rw[tM];omega) (λx f=>⟨vd.out x (mj f),(t.pg.sm (mj f)).1⟩) q.w (λ_=>(G q.w q.h).2) (λi x f k u hu=>(G q.w q.h).1 i x (by
      have J:=bo.1 f;rw[lO] at f
      split at f
      ·exact f
      ·cases f) k u hu)
     rw[tM,ux.out j v] at this;exact this
    have vm:cg (∀q:BW wr,zP 176 #[tr (tf ⟨c,0,th⟩),tt ti,Z U 3,tv #[Z U s.ln,Z U s.cl]] q.w (tt ti)):=λq=>bQ 3 s.ln s.cl q.w (t.grow q.h);have g:=zH G;have o:=zH E;have ub:=zH hst;have vp:=zH tW;have vq:=zH tG;have HE:=zH z;have xf:b<wr.heap.size:=(G wr (aq _ _)).2;have xj:j<=p.bC:=by have:=t.pg.cb;omega
    have xl:(j:aw)<=(p.bC:aw):=by omega
    clear t f E tU hst tW tG z G tM
    go_upto_region 4 with(go_at_call 178;refine vf.out.mono ?_;rintro e wr ⟨rfl,rfl⟩)
    have s7:∀q:BW wr,q.w.cell? ⟨b,A+j*9+7,th⟩=tf (Z U s.ln):=λq=>(g.out q.w q.h).1 j s o.out 7 _ rfl;have s8:∀q:BW wr,q.w.cell? ⟨b,A+j*9+8,th⟩=tf (Z U s.cl):=λq=>(g.out q.w q.h).1 j s o.out 8 _ rfl
    go_cut [5] (λs wc=>s= Z U (j:aw)/\aE wr.heap.size wr wc)
    case first=>
     refine zQ ?_
     repeat (go_big_quiet_step (first
      |(go_at_call 216;exact bg (vh.out _))
      |(go_at_call 176;exact bg (vm.out _))))
     refine dr ?_;rintro _ ⟨q,rfl⟩;have hq:=q.h;clear s7 s8;go_wp2
     go_meet
     case rel=>exact⟨rfl,hq⟩
    case rest=>
     obtain⟨rfl,d⟩:=hcut;clear s7 s8;have uc:=tE.out.grow d;have tP:=zH (wX wc uc vq.out ub.out (by omega));have k0:=(g.out wc d).1 j s o.out 0 _ rfl;have k1:=(g.out wc d).1 j s o.out 1 _ rfl;have k2:=(g.out wc d).1 j s o.out 2 _ rfl;have k3:=(g.out wc d).1 j s o.out 3 _ rfl;have k4:=(g.out wc d).1 j s o.out 4 _ rfl;have k5:=(g.out wc d).1 j s o.out 5 _ rfl;have k6:=(g.out wc d).1 j s o.out 6 _ rfl;have k7:=(g.out wc d).1 j s o.out 7 _ rfl;have k8:=(g.out wc d).1 j s o.out 8 _ rfl;rw[i7] at k0;have z:=HE.out;rw[z] at k4;unfold Sm.cells at tP;rw[z] at tP;have xo:b<wc.heap.size:=(g.out wc d).2;have vr:=zH d;clear uc d z
     go_wp2_with (go_at_call 244;refine tP.out.mono ?_;rintro en w5 ⟨rfl,vt,vu,ud,ue⟩;have vx:=zH ud;have vy:=zH ue;clear ud ue)
     go_roundw
     case rel=>
      have xp:=ub.out.len;exact⟨j+1,S1,vt,vu,by go_num,v,by omega,vp.out,vx.out,(HX.out.trans (Ext.of_below_size (M:=λ_=>lj) vr.out) (λq h=>h.elim)).trans vy.out (λq h=> .inl h)⟩
     case measure=>simp[dp];omega
  ·have xr:j=p.ss.length:=by omega
   have R:=t.row;have xt:=ae R;have f9:wr.frozen? ⟨c,9,th⟩=tj:=(rowAt R 9 rfl).2;have c9:wr.cell? ⟨c,9,th⟩=tf (tn sA S.length sC):=(rowAt R 9 rfl).1;clear t f tD R;go_wp2
   go_end0
   have up:Ext (·=c) wr (wr.setCell ⟨c,9,th⟩ (tn th 0 0)):=Ext.set1 wr c 9 _;exact⟨rfl,⟨lL tE.out.row,tE.out.pg.ext up (λk K e=>by omega),ur,λh=>fz rfl h,by simp,λa h=>fz rfl h⟩,HX.out.trans up (λq h=> .inl h)⟩
theorem AV (ao:cC fg)(cp:bj)(w:World):zP 211 #[tn ao 1 cp] w (tv #[Z U 0,Z U 0]):=by
 obtain⟨N,e⟩:=zE w.heap.size;obtain⟨W1,d⟩:=zE (w.alloc (tA #[Z U 0,Z U 0] 40));have g:=ik d e;have f:W1.heap[N]?=tf (tA #[Z U 0,Z U 0] 40 (0,0)):=by rw[<-d,<-e];exact alloc_at _ _
 obtain⟨⟨c0,c1⟩,⟨f0,f1⟩,q⟩:=bZ f;have h:=zH d;have j:=zH g;have o:=zH f;clear d g f;go_enter func211,ntmps211
 go_upto_region 1 with(fail)
 rw[h.out];go_wp2;(try simp only[cQ,Exit.then]);refine dk (er (P:=am) rfl _ _ N 40 _ (0,0) _ rfl (aW o.out) ms rfl (by kernel_rfl)) rfl ?_;(try rw[e]);exact⟨rfl,(j.out.setCell (by show N<=N;omega) _).setCell (by show N<=N;omega) _⟩
theorem qG {c:bj}{p:Pg}{L:bj}{f0 f1 f2 f3 f4 f5 f6:cw}{sA:cC fg}{sC:bj}{S:bp Fd}{fd:Fd}(w:World)(h:Ck c p L f0 f1 f2 f3 f4 f5 f6 sA sC S w)(hf:p.fs=[fd])(tE:fd.ty=(ti,p.snm)):
  fj am 175 #[tr (tf ⟨c,0,th⟩)] w λen w'=>en= tB (.tuple #[])/\aE w.heap.size w w':=by
 have tU:p.pA<w.heap.size:=cD h.pg.pA h.pg.lo;have c0:w.cell? ⟨c,0,th⟩=tf (tn (tf ⟨p.pA,0,th⟩) 1 p.pC):=(rowAt h.row 0 rfl).1;have vm:=ae h.row;obtain⟨t,v,tW,ua,ub⟩:=h.pg.fd (by rw[hf];simp);have uc:t<w.heap.size:=cD ua h.pg.lo;have ud:p.fs.length=1:=by rw[hf];rfl
 have ue:∀W,aE w.heap.size w W->(W.cell? ⟨t,v,th⟩=tf (tm fd.nm)/\W.cell? ⟨t,v+1,th⟩=tf (tt ti)/\W.cell? ⟨t,v+2,th⟩=tf (tm p.snm)/\W.cell? ⟨t,v+3,th⟩=tf (Z U fd.ln)/\W.cell? ⟨t,v+4,th⟩=tf (Z U fd.cl)):=λW o=>by
  have g:∀k u,fd.cells.toList[k]?=tf u->W.cell? ⟨t,v+k,th⟩=tf u:=λk u hu=>by
   rw[o.cell (p:=⟨t,v+k,th⟩) uc];have:=ub 0 fd (by rw[hf];rfl) k u hu;simpa using this
  have e1:fd.ptr=ti:=congrArg m8 tE;have e2:fd.tgt=p.snm:=congrArg nd tE;refine⟨g 0 _ rfl, ?_, ?_,g 3 _ rfl,g 4 _ rfl⟩
  ·rw[<-e1];exact g 1 _ rfl
  ·rw[<-e2];exact g 2 _ rfl
 have up:∀W,aE w.heap.size w W->(W.cell? ⟨p.pA,0,th⟩=tf (tm p.snm)/\W.cell? ⟨p.pA,1,th⟩=tf (tn (tf ⟨t,v,th⟩) 1 p.fC)/\W.cell? ⟨p.pA,2,th⟩=tf (Z U p.sl)/\W.cell? ⟨p.pA,3,th⟩=tf (Z U p.sc)):=λW o=>by
  have g:=(h.pg.grow o).s;refine⟨g 0 _ rfl, ?_,g 2 _ rfl,g 3 _ rfl⟩;have ur:=g 1 _ rfl;rw[tW,ud] at ur;exact ur
 have HF:=zH ue;have z:=zH up;have H:=zH h;have tG:cg (∀(f a b:aw) W,aE w.heap.size w W->zP 176 #[tr (tf ⟨c,0,th⟩),tt ti,Z U f,tv #[Z U a,Z U b]] W (tt ti)):=λf a b W o=>bQ f a b W (h.grow o);have vp:cg (∀W,aE w.heap.size w W->zS 178 #[tr (tf ⟨c,0,th⟩)] W (tt tj)):=λW o=>dx W (h.grow o);have tM:∀W,aE w.heap.size w W->zP 212 #[tv p.cells,tm p.snm] W (Z U 0):=λW o=>by
  have:=fT p.snm W (h.grow o).pg;unfold nJ at this;rw[kO] at this;exact this
 unfold Pg.cells at tM;have vq:=zH tM;have vr:cg (∀W,aE w.heap.size w W->zP 213 #[tr (tf ⟨c,0,th⟩),tv #[tt ti,tm p.snm]] W (tt ti)):=λW o=>qf p.snm W (h.grow o) rfl;have hst:∀(w:World)(c:dl cw),c.size=5->(dd ⟨w.heap.size,0,th⟩ [tm fd.nm,tt ti,tm p.snm,Z U fd.ln,Z U fd.cl] 0).run am (w.alloc (tA c 92))= .ok () (w.alloc (tA #[tm fd.nm,tt ti,tm p.snm,Z U fd.ln,Z U fd.cl] 92)):=λw c hc=>
  cr (P:=am) w 92 c #[tm fd.nm,tt ti,tm p.snm,Z U fd.ln,Z U fd.cl] (by show _=tf 5;kernel_rfl) hc (by simp[cn])
 have vt:=zH hst;clear h hf tE ua ub ue up tM tW ud hst;go_enter func175,ntmps175
 go_upto_region 3 with(first
  |(go_at_call 211;refine(AV _ _ _).mono ?_;rintro e w2 ⟨rfl,uv⟩;have tP:=zH uv;clear uv)
  |(go_at_call 176;refine(tG.out _ _ _ w2 tP.out).mono ?_;rintro e w3 ⟨rfl,ux⟩;have vu:=zH (tP.out.trans (ux.mono tP.out.size));clear ux))
 clear c0
 go_loopw [3] (λi wr=>(i= Z U 0\/i= Z U 1)/\aE w.heap.size w wr) (λi _=>1-(dp i).toNat)
 case atStart=>exact⟨.inl rfl,vu.out⟩
 case round=>
  obtain⟨hi,d⟩:=hrel;have tR:=zH d;have vx:=zH (vp.out wr d);rcases hi with rfl|rfl
  rotate_left
  ·clear d
   go_wp2
   go_end0
   exact⟨rfl,tR.out⟩
  have b0:∀q:BW wr,q.w.cell? ⟨c,0,th⟩=tf (tn (tf ⟨p.pA,0,th⟩) 1 p.pC):=λq=>(rowAt (H.out.grow (d.trans (q.h.mono d.size))).row 0 rfl).1;have b1:∀q:BW wr,q.w.cell? ⟨c,1,th⟩=tf (tn (tf ⟨p.qA,0,th⟩) 1 p.qC):=λq=>(rowAt (H.out.grow (d.trans (q.h.mono d.size))).row 1 rfl).1;have A:∀q:BW wr,q.w.cell? ⟨p.pA,0,th⟩=tf (tm p.snm):=λq=>(z.out q.w (d.trans (q.h.mono d.size))).1;have E:∀q:BW wr,q.w.cell? ⟨p.pA,2,th⟩=tf (Z U p.sl):=λq=>(z.out q.w (d.trans (q.h.mono d.size))).2.2.1;have J:∀q:BW wr,q.w.cell? ⟨p.pA,3,th⟩=tf (Z U p.sc):=λq=>(z.out q.w (d.trans (q.h.mono d.size))).2.2.2;have vy:cg (∀q:BW wr,zP 176 #[tr (tf ⟨c,0,th⟩),tt ti,Z U 6,tv #[Z U p.sl,Z U p.sc]] q.w (tt ti)):=λq=>tG.out 6 p.sl p.sc q.w (d.trans (q.h.mono d.size));have we:=zH (λq:BW wr=>vq.out q.w (d.trans (q.h.mono d.size)));have ws:p.pA<wr.heap.size:=cD tU d.size;have xf:c<wr.heap.size:=cD vm d.size;clear d
  go_upto_region 5 with(go_at_call 178;refine vx.out.mono ?_;rintro e wr ⟨rfl,rfl⟩)
  go_cut [3] (λs wc=>s= Z U 0/\aE wr.heap.size wr wc)
  case first=>
   refine zQ ?_
   repeat (go_big_quiet_step (first
    |(go_at_call 212;exact bg (we.out _))
    |(go_at_call 176;exact bg (vy.out _))))
   refine dr ?_;rintro _ ⟨q,rfl⟩;have g:=q.h;clear b0 b1 A E J;go_wp2
   go_meet
   case rel=>exact⟨rfl,g⟩
  case rest=>
   obtain⟨rfl,vc⟩:=hcut;clear b0 b1 A E J;have vd:=tR.out.trans (vc.mono tR.out.size);have wg:=zH vd;clear vc vd
   go_upto_region 7 with(fail)
   go_loopw [4] (λk wq=>(k= Z U 0\/k= Z U 1)/\aE w.heap.size w wq) (λk _=>1-(dp k).toNat)
   case atStart=>exact⟨.inl rfl,wg.out⟩
   case round=>
    obtain⟨hk,x⟩:=hrel;have vf:=zH x;obtain⟨A,s1,E,J⟩:=z.out wr x;have xj:p.pA<wr.heap.size:=cD tU x.size;rcases hk with rfl|rfl
    rotate_left
    ·clear x
     go_wp2;go_roundw
     case rel=>exact⟨.inr rfl,vf.out⟩
     case measure=>simp[dp]
    obtain⟨k0,k1,k2,k3,k4⟩:=HF.out wr x;have wj:=vt.out wr;have xl:t<wr.heap.size:=cD uc x.size;clear x
    go_upto_region 11 with(fail)
    clear wj;obtain⟨G,hG⟩:=zE wr.heap.size;obtain⟨W5,K⟩:=zE (wr.alloc (tA #[tm fd.nm,tt ti,tm p.snm,Z U fd.ln,Z U fd.cl] 92));rw[hG,K];have vh:=zD K vf;have tS:W5.heap[G]?=tf (tA #[tm fd.nm,tt ti,tm p.snm,Z U fd.ln,Z U fd.cl] 92 (0,0)):=by rw[<-K,<-hG];exact alloc_at _ _
    have R:=ae tS;have y:=zH vh;have tD:=zH tS;clear hG K vh tS A s1 E J k0 k1 k2 k3 k4
    go_loopw [6] (λj wq=>j= Z U 0/\wq=W5) (λ_ _=>0)
    case atStart=>exact⟨rfl,rfl⟩
    case round=>
     obtain⟨rfl,rfl⟩:=hrel;have x1:∀q:BW wr,q.w.cell? ⟨G,1,th⟩=tf (tt ti):=λq=>(rowAt ((q.h.block G R).trans tD.out) 1 rfl).1;have x2:∀q:BW wr,q.w.cell? ⟨G,2,th⟩=tf (tm p.snm):=λq=>(rowAt ((q.h.block G R).trans tD.out) 2 rfl).1;have x3:∀q:BW wr,q.w.cell? ⟨G,3,th⟩=tf (Z U fd.ln):=λq=>(rowAt ((q.h.block G R).trans tD.out) 3 rfl).1;have x4:∀q:BW wr,q.w.cell? ⟨G,4,th⟩=tf (Z U fd.cl):=λq=>(rowAt ((q.h.block G R).trans tD.out) 4 rfl).1;have wk:cg (∀q:BW wr,zP 176 #[tr (tf ⟨c,0,th⟩),tt ti,Z U 5,tv #[Z U fd.ln,Z U fd.cl]] q.w (tt ti)):=λq=>tG.out 5 fd.ln fd.cl q.w (y.out.trans (q.h.mono y.out.size));have wl:=zH (λq:BW wr=>vr.out q.w (y.out.trans (q.h.mono y.out.size)))
     go_upto_region 14 with(fail)
     refine zQ ?_
     repeat (go_big_quiet_step (first
      |(go_at_call 213;exact bg (wl.out _))
      |(go_at_call 176;exact bg (wk.out _))))
     refine dr ?_;rintro _ ⟨q,rfl⟩;have HQ:cg (aE w.heap.size w q.w):=y.out.trans (q.h.mono y.out.size);clear x1 x2 x3 x4;go_wp2;go_roundw
     case rel=>exact⟨.inr rfl,HQ.out⟩
     case measure=>simp[dp]
def Pg.fnV (p:Pg):dl cw:=#[tm p.nm,tn th 0 0,tt p.ret.1,tm p.ret.2,tn p.bA p.ss.length p.bC,Z U p.gl,Z U p.gc]
theorem oQ {c:bj}{p:Pg}{L:bj}{f0 f1 f2 f3 f4 f5 f6:cw}{sA:cC fg}{sC:bj}{S:bp Fd}(w:World)(h:Ck c p L f0 f1 f2 f3 f4 f5 f6 sA sC S w)(ub:p.ret.1=tj)(hk:iG p p.ret [] p.ss)(ux:p.ss.length<=1000)(uc:∀j,j<p.ss.length->(p.ss.take j).any gT=tj)(ud:p.ss≠[])(ue:p.ss.any gT=ti):
  fj am 179 #[tr (tf ⟨c,0,th⟩),tv p.fnV] w λen w'=>en= tB (.tuple #[])/\
   Ck c p L (tm p.nm) (tn th 0 0) (tt p.ret.1) (tm p.ret.2) (tn p.bA p.ss.length p.bC) (Z U p.gl) (Z U p.gc) th 0 [] w'/\Ext (·=c) w w':=by
 obtain⟨N,g⟩:=zE w.heap.size;unfold Pg.fnV;obtain⟨W1,G⟩:=zE (w.alloc (tA #[tm p.nm,tn th 0 0,tt p.ret.1,tm p.ret.2,tn p.bA p.ss.length p.bC,Z U p.gl,Z U p.gc] 233));have tD:=ik G g;have J:W1.heap[N]?=tf (tA #[tm p.nm,tn th 0 0,tt p.ret.1,tm p.ret.2,tn p.bA p.ss.length p.bC,Z U p.gl,Z U p.gc] 233 (0,0)):=by rw[<-G,<-g];exact alloc_at _ _
 have xl:=ae J;have h1:=h.grow (by rw[g];exact tD);have xo:c<N:=by rw[<-g];exact ae h.row
 have d:=h1.row;have xp:=ae d;have r2:=(rowAt d 2 rfl)
 have r3:=(rowAt d 3 rfl)
 have r4:=(rowAt d 4 rfl)
 have r5:=(rowAt d 5 rfl)
 have r6:=(rowAt d 6 rfl)
 have r7:=(rowAt d 7 rfl)
 have r8:=(rowAt d 8 rfl)
 have r9:=(rowAt d 9 rfl)
 obtain⟨u2,v2⟩:=r2;obtain⟨u3,v3⟩:=r3;obtain⟨u4,v4⟩:=r4;obtain⟨u5,v5⟩:=r5;obtain⟨u6,v6⟩:=r6;obtain⟨u7,v7⟩:=r7;obtain⟨u8,v8⟩:=r8;obtain⟨u9,v9⟩:=r9;obtain⟨⟨o,t,u,v,y,z,A⟩,_,xr⟩:=ed J;have H1:=zH h1;have vc:=zH d;have vd:=zH G;have vf:=zH tD;have vh:=zH J;have vm:=h.hc;have vp:=zH ub;have HK:=zH hk;have vq:=zH uc;have vr:=zH ue;clear h ub hk uc ue G tD J h1 d;go_enter func179,ntmps179
 go_upto_region 1 with(fail)
 rw[vd.out]
 go_upto_region 4 with(fail)
 obtain⟨W2,K⟩:=zE ((((((((W1.setCell ⟨c,2,th⟩ (tm p.nm)).setCell ⟨c,3,th⟩ (tn th 0 0)).setCell ⟨c,4,th⟩ (tt p.ret.1)).setCell ⟨c,5,th⟩ (tm p.ret.2)).setCell ⟨c,6,th⟩ (tn p.bA p.ss.length p.bC)).setCell ⟨c,7,th⟩ (Z U p.gl)).setCell ⟨c,8,th⟩ (Z U p.gc)).setCell ⟨c,9,th⟩ (tn th 0 0));rw[K];have R:Ext (·=c) W1 W2:=by rw[<-K];exact aa (aa (aa (aa (aa (aa (aa (aa (Ext.refl _ _) _) _) _) _) _) _) _) _
 have up:Ck c p L (tm p.nm) (tn th 0 0) (tt p.ret.1) (tm p.ret.2) (tn p.bA p.ss.length p.bC) (Z U p.gl) (Z U p.gc) th 0 [] W2:=by
  refine⟨?_,H1.out.pg.ext R (λk hk e=>by omega),vm,λh=>fz rfl h,by simp,λa h=>fz rfl h⟩;rw[<-K];exact bk _ c 9 _ _ _ (bk _ c 8 _ _ _ (bk _ c 7 _ _ _ (bk _ c 6 _ _ _ (bk _ c 5 _ _ _ (bk _ c 4 _ _ _ (bk _ c 3 _ _ _ (bk _ c 2 _ _ _ vc.out)))))))
 have tE:=R.heap vh.out (by omega);have vt:=zH R;have tG:=zH up;have f:=zH tE;have E:=ae tE;clear K R up tE u2 u3 u4 u5 u6 u7 u8 u9 v2 v3 v4 v5 v6 v7 v8 v9 o t u v y z A
 go_loopw [4] (λk wq=>k= Z U 0/\wq=W2) (λ_ _=>0)
 case atStart=>exact⟨rfl,rfl⟩
 case round=>
  obtain⟨rfl,rfl⟩:=hrel;obtain⟨⟨o,t,u,v,y,z,A⟩,_,_⟩:=ed f.out
  go_upto_region 10 with(fail)
  clear o t u v y z A;have x2:∀q:BW wr,q.w.cell? ⟨N,2,th⟩=tf (tt p.ret.1):=λq=>(rowAt ((q.h.block N E).trans f.out) 2 rfl).1;have x3:∀q:BW wr,q.w.cell? ⟨N,3,th⟩=tf (tm p.ret.2):=λq=>(rowAt ((q.h.block N E).trans f.out) 3 rfl).1;have x5:∀q:BW wr,q.w.cell? ⟨N,5,th⟩=tf (Z U p.gl):=λq=>(rowAt ((q.h.block N E).trans f.out) 5 rfl).1;have x6:∀q:BW wr,q.w.cell? ⟨N,6,th⟩=tf (Z U p.gc):=λq=>(rowAt ((q.h.block N E).trans f.out) 6 rfl).1;have vu:cg (∀q:BW wr,zP 213 #[tr (tf ⟨c,0,th⟩),tv #[tt p.ret.1,tm p.ret.2]] q.w (tt ti)):=λq=>by
   rw[vp.out];exact yI p.ret.2 q.w (tG.out.grow q.h)
  have vx:cg (∀q:BW wr,zP 176 #[tr (tf ⟨c,0,th⟩),tt ti,Z U 5,tv #[Z U p.gl,Z U p.gc]] q.w (tt ti)):=λq=>bQ 5 p.gl p.gc q.w (tG.out.grow q.h)
  go_cut [3] (λs wc=>s= tr (tf ⟨N,0,th⟩)/\aE wr.heap.size wr wc)
  case first=>
   refine zQ ?_
   repeat (go_big_quiet_step (first
    |(go_at_call 213;exact bg (vu.out _))
    |(go_at_call 176;exact bg (vx.out _))))
   refine dr ?_;rintro _ ⟨q,rfl⟩;have hq:=q.h;clear x2 x3 x5 x6;go_wp2
   go_meet
   case rel=>exact⟨rfl,hq⟩
  case rest=>
   obtain⟨rfl,W⟩:=hcut;clear x2 x3 x5 x6;have ur:=tG.out.grow W;have vy:=zH (uo wc ur HK.out ux vq.out ud);have tM:=(W.block N E).trans f.out;obtain⟨⟨o,t,u,v,y,z,A⟩,_,xt⟩:=ed tM;have we:=zH W;have wg:=zH tM;clear ur tM W
   go_upto_region 12 with(go_at_call 215;refine vy.out.mono ?_;rintro en w5 ⟨rfl,uv,tP⟩;have tR:=zH uv;have wj:=zH tP;have tS:=tP.heap wg.out (by omega);have tU:=zH tS;have tW:=ae tS;clear uv tP tS)
   have y4:∀q:BW w5,q.w.cell? ⟨N,4,th⟩=tf (tn p.bA p.ss.length p.bC):=λq=>(rowAt ((q.h.block N tW).trans tU.out) 4 rfl).1;have y5:∀q:BW w5,q.w.cell? ⟨N,5,th⟩=tf (Z U p.gl):=λq=>(rowAt ((q.h.block N tW).trans tU.out) 5 rfl).1;have y6:∀q:BW w5,q.w.cell? ⟨N,6,th⟩=tf (Z U p.gc):=λq=>(rowAt ((q.h.block N tW).trans tU.out) 6 rfl).1;have wk:cg (∀q:BW w5,zP 176 #[tr (tf ⟨c,0,th⟩),tt ti,Z U 8,tv #[Z U p.gl,Z U p.gc]] q.w (tt ti)):=λq=>bQ 8 p.gl p.gc q.w (tR.out.grow q.h);have wl:cg (∀q:BW w5,zP 216 #[tn p.bA p.ss.length p.bC] q.w (tt ti)):=λq=>by
    have ua:=(tR.out.grow q.h).pg;obtain⟨b,ws,hA,xf,xj⟩:=ua.st ud;rw[hA];have:=mq b ws p.bC p.ss (by omega) (λx hx=>⟨HK.out.kinds x hx,(ua.sm hx).1⟩) q.w (λ_=>cD xf ua.lo) xj;rw[vr.out] at this;exact this
   clear o t u v y z A;refine zQ ?_
   repeat (go_big_quiet_step (first
    |(go_at_call 216;exact bg (wl.out _))
    |(go_at_call 176;exact bg (wk.out _))))
   refine dr ?_;rintro _ ⟨q,rfl⟩;clear y4 y5 y6;go_wp2
   go_end0
   refine⟨rfl,tR.out.grow q.h, ?_⟩;have e1:Ext (·=c) w W1:=Ext.of_below_size (by rw[g];exact vf.out);exact(((e1.trans vt.out (λq h=> .inl h)).trans (Ext.of_below_size (M:=λ_=>lj) we.out) (λq h=>h.elim)).trans wj.out (λq h=> .inl h)).trans (Ext.of_below_size (M:=λ_=>lj) q.h) (λq h=>h.elim)
def qg:bl:=⟨#[109,97,105,110]⟩
structure Fe (p:Pg):Prop where
 fs:∃fd,p.fs=[fd]/\fd.ty=(ti,p.snm)
 nm:p.nm=qg
 ret:p.ret.1=tj
 ok:iG p p.ret [] p.ss
 ss:p.ss.length<=1000
 en:∀j,j<p.ss.length->(p.ss.take j).any gT=tj
 ne:p.ss≠[]
 fin:p.ss.any gT=ti
def GX (p:Pg):dl cw:=#[tn (tf ⟨p.pA,0,th⟩) 1 p.pC,tn (tf ⟨p.qA,0,th⟩) 1 p.qC,tm ⟨#[]⟩,tn th 0 0,tt tj,tm ⟨#[]⟩,tn th 0 0,Z U 0,Z U 0,tn th 0 0,Z U 0,Z U 0,Z U 0,Z U 0,Z U 0]
def kI (c:bj)(p:Pg)(L:bj)(w:World):Prop:=∃f0 f1 f2 f3 f4 f5 f6 sA sC S,Ck c p L f0 f1 f2 f3 f4 f5 f6 sA sC S w
theorem kI.grow {c:bj}{p:Pg}{L:bj}{w w':World}(h:kI c p L w)(hb:aE w.heap.size w w'):kI c p L w':=by
 obtain⟨f0,f1,f2,f3,f4,f5,f6,sA,sC,S,h⟩:=h;exact⟨f0,f1,f2,f3,f4,f5,f6,sA,sC,S,h.grow hb⟩
theorem kI.pg {c:bj}{p:Pg}{L:bj}{w:World}(h:kI c p L w):jh p L w:=by
 obtain⟨f0,f1,f2,f3,f4,f5,f6,sA,sC,S,h⟩:=h;exact h.pg
theorem ko {c:bj}{p:Pg}{L:bj}(f a b:aw)(w:World)(h:kI c p L w):
  zP 176 #[tr (tf ⟨c,0,th⟩),tt ti,Z U f,tv #[Z U a,Z U b]] w (tt ti):=by
 obtain⟨f0,f1,f2,f3,f4,f5,f6,sA,sC,S,h⟩:=h;exact bQ f a b w h
theorem wY {c:bj}{p:Pg}{L:bj}(w:World)(h:kI c p L w):zS 178 #[tr (tf ⟨c,0,th⟩)] w (tt tj):=by
 obtain⟨f0,f1,f2,f3,f4,f5,f6,sA,sC,S,h⟩:=h;exact dx w h
theorem yL {c:bj}{p:Pg}{L:bj}(w:World)(h:kI c p L w)(d:Fe p):fj am 179 #[tr (tf ⟨c,0,th⟩),tv p.fnV] w λe w'=>e= tB (.tuple #[])/\kI c p L w'/\Ext (·=c) w w':=by
 obtain⟨f0,f1,f2,f3,f4,f5,f6,sA,sC,S,h⟩:=h;refine(oQ w h d.ret d.ok d.ss d.en d.ne d.fin).mono ?_;rintro e w' ⟨f,g,j⟩;exact⟨f,⟨_,_,_,_,_,_,_,_,_,_,g⟩,j⟩
theorem kI.d {c:bj}{p:Pg}{L:bj}{w:World}(h:kI c p L w):w.cell? ⟨c,10,th⟩=tf (Z U 0)/\w.cell? ⟨c,11,th⟩=tf (Z U 0)/\w.cell? ⟨c,12,th⟩=tf (Z U 0)/\w.cell? ⟨c,13,th⟩=tf (Z U 0)/\c<w.heap.size:=by
 obtain⟨f0,f1,f2,f3,f4,f5,f6,sA,sC,S,h⟩:=h;exact⟨(rowAt h.row 10 rfl).1,(rowAt h.row 11 rfl).1,(rowAt h.row 12 rfl).1,(rowAt h.row 13 rfl).1,ae h.row⟩
structure Ea (N:bj)(p:Pg)(L:bj)(w W:World):Prop where
 ck:kI (N+2) p L W
 r0:W.heap[N]?=tf (tA #[tn (tf ⟨p.pA,0,th⟩) 1 p.pC,tn (tf ⟨p.qA,0,th⟩) 1 p.qC] 179 (0,0))
 r1:W.heap[N+1]?=tf (tA #[Z U 0,Z U 0,Z U 0,Z U 0] 113 (0,0))
 low:aE N w W
theorem Ea.grow {N:bj}{p:Pg}{L:bj}{w W d:World}(h:Ea N p L w W)(hb:aE W.heap.size W d):Ea N p L w d:=
 ⟨h.ck.grow hb,(hb.block N (ae h.r0)).trans h.r0,(hb.block (N+1) (ae h.r1)).trans h.r1,h.low.trans (hb.mono (mA (ae h.r0)))⟩
theorem Ea.fn {N:bj}{p:Pg}{L:bj}{w W:World}(h:Ea N p L w W):(W.cell? ⟨p.qA,0,th⟩=tf (tm p.nm)/\W.cell? ⟨p.qA,1,th⟩=tf (tn th 0 0)/\W.cell? ⟨p.qA,2,th⟩=tf (tt p.ret.1)/\W.cell? ⟨p.qA,3,th⟩=tf (tm p.ret.2)/\W.cell? ⟨p.qA,4,th⟩=tf (tn p.bA p.ss.length p.bC)/\W.cell? ⟨p.qA,5,th⟩=tf (Z U p.gl)/\W.cell? ⟨p.qA,6,th⟩=tf (Z U p.gc))/\p.qA<W.heap.size:=by
 have hf:=h.ck.pg.f;exact⟨⟨hf 0 _ rfl,hf 1 _ rfl,hf 2 _ rfl,hf 3 _ rfl,hf 4 _ rfl,hf 5 _ rfl,hf 6 _ rfl⟩,cD h.ck.pg.qA h.ck.pg.lo⟩
theorem uq {p:Pg}{L:bj}(w:World)(h:jh p L w)(ho:Fe p):
  zP 130 #[tv p.cells] w (tv #[Z U 0,Z U 0,Z U 0,Z U 0]):=by
 obtain⟨N,u⟩:=zE w.heap.size;obtain⟨fd,uc,ud⟩:=ho.fs;obtain⟨W,v⟩:=zE ((w.alloc (tA #[tn (tf ⟨p.pA,0,th⟩) 1 p.pC,tn (tf ⟨p.qA,0,th⟩) 1 p.qC] 179)).alloc (tA #[Z U 0,Z U 0,Z U 0,Z U 0] 113));obtain⟨t,x⟩:=zE (W.alloc (tA (GX p) 275));have ue:=vg v u;have up:W.heap.size=N+2:=by rw[<-v];simp[u]
 have tP:aE N w t:=by rw[<-x];exact ue.alloc (by omega) _
 have ur:t.heap[N]?=tf (tA #[tn (tf ⟨p.pA,0,th⟩) 1 p.pC,tn (tf ⟨p.qA,0,th⟩) 1 p.qC] 179 (0,0)):=by
  rw[<-x];refine(cE _ _ N (by omega)).trans ?_;rw[<-v,<-u];exact i8 _ _ _
 have uv:t.heap[N+1]?=tf (tA #[Z U 0,Z U 0,Z U 0,Z U 0] 113 (0,0)):=by
  rw[<-x];refine(cE _ _ (N+1) (by omega)).trans ?_;rw[<-v,<-u];exact im _ _ _
 have ux:t.heap[N+2]?=tf (tA (GX p) 275 (0,0)):=by rw[<-x,<-up];exact alloc_at _ _
 have vc:=h.grow (show aE w.heap.size w t by rw[u];exact tP);have tR:Ck (N+2) p L (tm ⟨#[]⟩) (tn th 0 0) (tt tj) (tm ⟨#[]⟩) (tn th 0 0) (Z U 0) (Z U 0) th 0 [] t:=
  ⟨ux,vc,by have:=h.lo;omega,λh=>fz rfl h,by simp,λa h=>fz rfl h⟩
 have vy:=zH (qG t tR uc ud);have we:cg (Ea N p L w t):=⟨⟨_,_,_,_,_,_,_,_,_,_,tR⟩,ur,uv,tP⟩
 have HO:=zH ho;have tS:=x;unfold GX at tS;have wg:=zH tS;have wj:=zH v;obtain⟨⟨g,j⟩,_,_⟩:=bZ ((show W.heap[N]?=tf (tA #[tn (tf ⟨p.pA,0,th⟩) 1 p.pC,tn (tf ⟨p.qA,0,th⟩) 1 p.qC] 179 (0,0)) by rw[<-v,<-u];exact i8 _ _ _));have xj:N<W.heap.size:=by omega
 unfold Pg.cells;clear h ho uc ud v x tS ue tP ur uv ux vc tR;go_enter func130,ntmps130
 go_upto_region 1 with(fail)
 rw[wj.out]
 go_upto_region 2 with(fail)
 rw[wg.out];(try simp only[up]);clear g j
 go_upto_region 4 with(go_at_call 175;refine vy.out.mono ?_;rintro en w4 ⟨rfl,vd⟩;have wk:=zH (we.out.grow vd);clear vd)
 go_loopw [4] (λi wr=>(i= Z U 0\/i= Z U 1)/\Ea N p L w wr) (λi _=>1-(dp i).toNat)
 case atStart=>exact⟨.inl rfl,wk.out⟩
 case round=>
  obtain⟨hi,f⟩:=hrel;obtain⟨⟨z,A,y,E,G,J,K⟩,xl⟩:=f.fn;obtain⟨⟨g,j⟩,_,xo⟩:=bZ f.r0;have vf:=zH f;have tD:=zH (ko 2 p.gl p.gc wr f.ck);clear f;rcases hi with rfl|rfl
  ·go_wp2_with (go_at_call 176;refine tD.out.mono ?_;rintro en w5 ⟨rfl,vh⟩;have tU:=zH (vf.out.grow vh);clear vh)
   go_roundw
   case rel=>exact⟨.inr rfl,tU.out⟩
   case measure=>simp[dp]
  clear tD
  go_upto_region 8 with(fail)
  clear z A y E G J K g j
  go_loopw [5] (λi wr=>(i= Z U 0\/i= Z U 1)/\Ea N p L w wr) (λi _=>1-(dp i).toNat)
  case atStart=>exact⟨.inl rfl,vf.out⟩
  case round=>
   obtain⟨hi,f⟩:=hrel;obtain⟨⟨g,j⟩,_,xp⟩:=bZ f.r0;have o:=zH f;have xr:=f.fn.2;clear f;rcases hi with rfl|rfl
   ·go_upto_region 10 with(fail)
    clear g j;have x0:∀q:BW wr,q.w.cell? ⟨N,0,th⟩=tf (tn (tf ⟨p.pA,0,th⟩) 1 p.pC):=λq=>(rowAt (o.out.grow q.h).r0 0 rfl).1;have x1:∀q:BW wr,q.w.cell? ⟨N,1,th⟩=tf (tn (tf ⟨p.qA,0,th⟩) 1 p.qC):=λq=>(rowAt (o.out.grow q.h).r0 1 rfl).1;have y0:∀q:BW wr,q.w.cell? ⟨p.qA,0,th⟩=tf (tm p.nm):=λq=>(o.out.grow q.h).fn.1.1;have y5:∀q:BW wr,q.w.cell? ⟨p.qA,5,th⟩=tf (Z U p.gl):=λq=>(o.out.grow q.h).fn.1.2.2.2.2.2.1;have y6:∀q:BW wr,q.w.cell? ⟨p.qA,6,th⟩=tf (Z U p.gc):=λq=>(o.out.grow q.h).fn.1.2.2.2.2.2.2;have tW:∀q:BW wr,zP 177 #[tv p.cells,tm p.nm] q.w (Z U 0):=λq=>by
     have:=nK p.nm q.w (o.out.grow q.h).ck.pg;unfold D6 at this;rw[kO] at this;exact this
    unfold Pg.cells at tW;have wl:=zH tW;have tD:=zH (λq:BW wr=>ko 6 p.gl p.gc q.w (o.out.grow q.h).ck);clear tW;refine zQ ?_
    repeat (go_big_quiet_step (first
     |(go_at_call 177;exact bg (wl.out _))
     |(go_at_call 176;exact bg (tD.out _))))
    refine dr ?_;rintro _ ⟨q,rfl⟩;have HQ:=zH (o.out.grow q.h);clear x0 x1 y0 y5 y6;go_wp2;go_roundw
    case rel=>exact⟨.inr rfl,HQ.out⟩
    case measure=>simp[dp]
   go_upto_region 12 with(fail)
   clear g j
   go_loopw [6] (λi wr=>(i= Z U 0\/i= Z U 1)/\Ea N p L w wr) (λi _=>1-(dp i).toNat)
   case atStart=>exact⟨.inl rfl,o.out⟩
   case round=>
    obtain⟨hi,f⟩:=hrel;obtain⟨⟨g,j⟩,_,xt⟩:=bZ f.r0;obtain⟨⟨z,A,y,E,G,J,K⟩,xF⟩:=f.fn;have R:=zH f;have vm:=zH (wY wr f.ck);have ua:=yL wr f.ck HO.out;unfold Pg.fnV at ua;have vp:=zH ua;clear f ua;rcases hi with rfl|rfl
    ·go_wp2_with (first
      |(go_at_call 178;refine vm.out.mono ?_;rintro e wr ⟨rfl,rfl⟩)
      |(go_at_call 179;refine vp.out.mono ?_;rintro en w5 ⟨rfl,vq,tE⟩;have tU:cg (Ea N p L w w5):=(⟨vq,tE.heap R.out.r0 (by omega),tE.heap R.out.r1 (by omega),R.out.low.trans (tE.below (by omega) (λq hq=>by omega))⟩:Ea N p L w w5);clear vq tE))
     go_roundw
     case rel=>exact⟨.inr rfl,tU.out⟩
     case measure=>simp[dp]
    have vr:p.nm=qg:=HO.out.nm;have ub:zP 177 #[tv p.cells,tm qg] wr (Z U 0):=by
     have:=nK qg wr R.out.ck.pg;unfold D6 at this;rw[vr,kO] at this;exact this
    unfold Pg.cells qg at ub;have ws:=zH ub;clear vr ub vp vm
    go_upto_region 16 with(go_at_call 177;refine ws.out.mono ?_;rintro en w6 ⟨rfl,vt⟩;have tG:=zH (R.out.grow vt);clear vt)
    clear g j z A y E G J K;obtain⟨⟨g,j⟩,_,xT⟩:=bZ tG.out.r0;obtain⟨⟨z,A,y,E,G,J,K⟩,ya⟩:=tG.out.fn;have vu:=HO.out.ret;rw[vu] at y;have xf:=zH (ko 9 1 1 w6 tG.out.ck);clear vu
    go_upto_region 17 with(go_at_call 176;refine xf.out.mono ?_;rintro en w7 ⟨rfl,vx⟩;have tM:=zH (tG.out.grow vx);clear vx)
    clear g j z A y E G J K;obtain⟨d0,d1,d2,d3,yb⟩:=tM.out.ck.d;obtain⟨⟨e0,e1,e2,e3⟩,⟨f0,f1,f2,f3⟩,yd⟩:=l7 tM.out.r1;go_wp2;(try simp only[cQ,Exit.then]);refine dk (er (P:=am) rfl _ _ (N+1) 113 _ (0,0) _ rfl (iX tM.out.r1) oy rfl (by kernel_rfl)) rfl ?_;(try rw[u]);exact⟨rfl,rC tM.out.low (by omega) _ _ _ _⟩
end Go.Proofs.YtjomgckjhcfbgaaGreat
