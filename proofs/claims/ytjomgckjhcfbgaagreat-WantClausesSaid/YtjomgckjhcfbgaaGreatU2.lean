/- Walks. -/
import Derived.Test.YtjomgckjhcfbgaaGreatU1
set_option maxRecDepth 100000
set_option maxHeartbeats 64000000
set_option linter.all false
namespace Go.Proofs.YtjomgckjhcfbgaaGreat
open Go.RowKit
open Go.Proofs.Tryz renaming prog→am,underlying313→iz,underlying282→m9
open Go.RowKit.Below renaming refl→aq,heap_alloc→cJ,heap_setCell→dg
open _root_ renaming Int→aw,Nat→bh,List→bj,ByteArray→bm,beq_eq_false_iff_ne→cT,Array→eA,beq_iff_eq→tt
open Go.RowKit renaming Below→aE,Hid→cj
open Go renaming heap_setCell_same→bk,cell_of_row→bw,run_storeCells_new→cx,Value→cA,storeCells→dt,bodyPost_ret→er,results_cell_row→fk,Calls→ge,TypeId→gt
open _root_.List renaming getElem?_eq_some_iff→bl,any_eq_true→kh,any_eq_false→lx
open _root_.Nat renaming le_refl→cg,le_trans→eJ
open Go.Value renaming oneCell'→ct,string→fz,string→tS,slice→tU,pointer→tW,bool→ua,agg→ub,int→Z
open Go.Exit renaming inBlock→dk
open _root_.Bool renaming and_eq_true→fj,or_eq_true→js,true→tP,false→tR
open Go.ByteArray renaming toList_eq→py
open _root_.Option renaming some→tG,none→tM
open Go.Obj renaming cells→uc
open Go.Ending renaming returned→ud
open Go.IntKind renaming i64→U
open Tryz
def fM:bm:=⟨#[40]⟩
def Fj:bm:=⟨#[110,117,108,108]⟩
def Fp:bm:=⟨#[110,101,119]⟩
theorem uI {r lb cap:bh}{T:bj Tok}{i:bh}{t:Tok}(d:aw)(w:World)(h:Rd r lb cap T i w)(J:T[i]?=tG t)(o:t.kind=3):
  ge am 278 #[tW (tG ⟨r,0,tM⟩),Z U d] w λe w'=>e= ud (ub (Ex.cells ⟨1,t.n,⟨#[]⟩,t.ln,t.cl⟩))/\bQ r lb cap T (i+1) w w':=by
 obtain⟨N,g⟩:=zE w.heap.size;obtain⟨W1,q⟩:=zE (w.alloc (uc #[Z U 0,Z U 0,tS ⟨#[]⟩,tS ⟨#[]⟩,tU tM 0 0,Z U 0,Z U 0] 313));have R:=iR q g;have vm:W1.heap.size=N+1:=by rw[<-q];simp[g]
 have vp:W1.heap[N]?=tG (uc #[Z U 0,Z U 0,tS ⟨#[]⟩,tS ⟨#[]⟩,tU tM 0 0,Z U 0,Z U 0] 313 (0,0)):=by rw[<-q,<-g];exact alloc_at _ _
 have u:=h.grow (by rw[g];exact R);have ue:=zH (bJ W1 u J);have vq:=zH λW v=>bI W (u.grow v);have up:∀W,Rd r lb cap T (i+1) W->ge am 273 #[tW (tG ⟨r,0,tM⟩),ub (Ex.cells ⟨1,t.n,⟨#[]⟩,t.ln,t.cl⟩)] W λen w'=>en= ud (ub (Ex.cells ⟨1,t.n,⟨#[]⟩,t.ln,t.cl⟩))/\aE W.heap.size W w':=λW v=>jS _ W v;have yW:=zH λs W v=>bF s W (u.grow v) J;simp only[Tok.cells,o] at ue;unfold Ex.cells at up;have xj:=zH up;have hst:∀(w:World)(c:eA cA),c.size=5->(dt ⟨w.heap.size,0,tM⟩ [Z U t.kind,tS t.text,Z U t.n,Z U t.ln,Z U t.cl] 0).run am (w.alloc (uc c 263))= .ok () (w.alloc (uc #[Z U t.kind,tS t.text,Z U t.n,Z U t.ln,Z U t.cl] 263)):=λw c hc=>
  cx (P:=am) w 263 c #[Z U t.kind,tS t.text,Z U t.n,Z U t.ln,Z U t.cl] (by show _=tG 5;kernel_rfl) hc (by simp[ct])
 have vr:∀(w:World)(c:eA cA),c.size=7->(dt ⟨w.heap.size,0,tM⟩ [Z U 0,Z U 0,tS ⟨#[]⟩,tS ⟨#[]⟩,tU tM 0 0,Z U t.ln,Z U t.cl] 0).run am (w.alloc (uc c 313))= .ok () (w.alloc (uc #[Z U 0,Z U 0,tS ⟨#[]⟩,tS ⟨#[]⟩,tU tM 0 0,Z U t.ln,Z U t.cl] 313)):=λw c hc=>
  cx (P:=am) w 313 c #[Z U 0,Z U 0,tS ⟨#[]⟩,tS ⟨#[]⟩,tU tM 0 0,Z U t.ln,Z U t.cl] (by show _=tG 7;kernel_rfl) hc (by simp[ct])
 rw[o] at hst;have xo:=zH hst;have xp:=zH vr;have zc:i<T.length:=(bl.1 J).1;have hT:=h.short;have zj:r<N:=by rw[<-g];exact h.rlt
 have vt:cj (lb<N):=by unfold cj;rw[<-g];exact h.lt
 have xt:=zH q;have xF:=zH R;have ur:=zH vm;have xT:=zH vp;have H1:=zH u;clear h J up hst vr q R vm vp u o;go_enter func278,ntmps278
 go_upto_region 2 with(go_at_call 170;rw[xt.out];refine ue.out.mono ?_;rintro e w2 ⟨rfl,vu⟩;have yb:=xo.out w2;have vx:=zH vu;clear vu)
 clear yb;obtain⟨G,x⟩:=zE w2.heap.size;obtain⟨K,y⟩:=zE (w2.alloc (uc #[Z U 3,tS t.text,Z U t.n,Z U t.ln,Z U t.cl] 263));rw[x,y];have vy:=zD y vx;have uv:K.heap.size=G+1:=by rw[<-y,<-x];simp
 have zp:N+1<=G:=by rw[<-x,<-ur.out];exact vx.out.size
 have ux:K.heap[G]?=tG (uc #[Z U 3,tS t.text,Z U t.n,Z U t.ln,Z U t.cl] 263 (0,0)):=by rw[<-y,<-x];exact alloc_at _ _
 obtain⟨⟨g0,g1,g2,g3,g4⟩,_,zs⟩:=fU ux;have we:=xp.out K;have yd:=zH vy;have ye:=zH ux;clear x y vy ux;rw[uv] at we
 go_upto_region 4 with(fail)
 clear we;obtain⟨f,j⟩:=zE (K.alloc (uc #[Z U 0,Z U 0,tS ⟨#[]⟩,tS ⟨#[]⟩,tU tM 0 0,Z U t.ln,Z U t.cl] 313));rw[j];have z:=zD j yd;have zv:f.heap.size=G+2:=by rw[<-j];simp[uv]
 have vc:f.heap[G+1]?=tG (uc #[Z U 0,Z U 0,tS ⟨#[]⟩,tS ⟨#[]⟩,tU tM 0 0,Z U t.ln,Z U t.cl] 313 (0,0)):=by rw[<-j,<-uv];exact alloc_at _ _
 have vd:f.heap[G]?=tG (uc #[Z U 3,tS t.text,Z U t.n,Z U t.ln,Z U t.cl] 263 (0,0)):=by rw[<-j];exact(cJ _ _ G (by omega)).trans ye.out
 have wg:=(z.block N (by have:=ur.out;omega)).trans xT.out;have h4:=H1.out.grow z;have yi:=zH (vq.out f z);have yk:=zH z;have yp:=zH vc;have An:=zH vd;have yq:=zH wg;have H4:=zH h4;obtain⟨c0,c1,c3,f1,hr⟩:=h4.cells;obtain⟨⟨g0,g1,g2,g3,g4⟩,_,At⟩:=fU vd;obtain⟨⟨e0,e1,e2,e3,e4,e5,e6⟩,⟨q0,q1,q2,q3,q4,q5,q6⟩,Ax⟩:=eZ vc;clear j z vc vd wg h4 vq ue
 go_upto_region 35 with(go_at_call 171;refine yi.out.mono ?_;rintro e w2 ⟨rfl,rfl⟩)
 obtain⟨A,E⟩:=zE (((f.setCell ⟨r,1,tM⟩ (Z U ((i:aw)+1))).setCell ⟨G+1,0,tM⟩ (Z U 1)).setCell ⟨G+1,1,tM⟩ (Z U t.n));rw[E];have wj:bQ r lb cap T (i+1) w A:=by
  have a:bQ r lb cap T (i+1) f (f.setCell ⟨r,1,tM⟩ (Z U ((i:aw)+1))):=⟨H4.out.step,Ext.set1 f r 1 _⟩
  have hx:Ext (·=G+1) (f.setCell ⟨r,1,tM⟩ (Z U ((i:aw)+1))) A:=by rw[<-E];exact ae (ae (Ext.refl _ _) _) _
  have yr:aE w.heap.size w f:=by rw[g];exact xF.out.trans (yk.out.mono (by rw[ur.out];omega))
  exact⟨a.1.ext hx (by omega) (by have:=vt.out;omega),(bQ.grown yr a).2.trans hx (λk o=> .inr (by omega))⟩
 have wk:A.heap[G+1]?=tG (uc #[Z U 1,Z U t.n,tS ⟨#[]⟩,tS ⟨#[]⟩,tU tM 0 0,Z U t.ln,Z U t.cl] 313 (0,0)):=by
  rw[<-E];exact bk _ (G+1) 1 _ _ _ (bk _ (G+1) 0 _ _ _ ((dg _ _ _ (G+1) (by show G+1≠r;omega)).trans yp.out))
 have wl:A.heap[N]?=tG (uc #[Z U 0,Z U 0,tS ⟨#[]⟩,tS ⟨#[]⟩,tU tM 0 0,Z U 0,Z U 0] 313 (0,0)):=by
  rw[<-E];exact(dg _ _ _ N (by show N≠G+1;omega)).trans ((dg _ _ _ N (by show N≠G+1;omega)).trans ((dg _ _ _ N (by show N≠r;omega)).trans yq.out))
 obtain⟨⟨e0,e1,e2,e3,e4,e5,e6⟩,⟨q0,q1,q2,q3,q4,q5,q6⟩,AD⟩:=eZ wk;have ws:=zH wj;have xf:=zH wl;clear wj wk wl;clear E c0 c1 c3 f1 hr g0 g1 g2 g3 g4
 go_wp2_with (go_at_call 273;refine(xj.out A ws.out.1).mono ?_;rintro e w6 ⟨rfl,vf⟩;have yv:=zH vf;have vh:=(vf.block N (aa xf.out)).trans xf.out;have yy:=zH vh;obtain⟨⟨p0,p1,p2,p3,p4,p5,p6⟩,⟨o0,o1,o2,o3,o4,o5,o6⟩,AE⟩:=eZ vh;clear vf vh)
 (try simp only[dk,Exit.then]);refine er (fk (P:=am) rfl _ _ N 313 _ (0,0) _ rfl (gN yy.out) iz rfl (by kernel_rfl)) rfl ?_;have hM:bQ r lb cap T (i+1) w w6:=ws.out.grow yv.out;exact⟨rfl,hM.1.ext (cK _ _ _ _ _ _ _ _ _) (by omega) (by have:=vt.out;omega),hM.2.trans (cK _ _ _ _ _ _ _ _ _) (λk o=> .inr (by omega))⟩
theorem uJ {r lb cap:bh}{T:bj Tok}{i:bh}{t u:Tok}(d:aw)(w:World)(h:Rd r lb cap T i w)(K:T[i]?=tG t)(q:t.kind=1)(hu:T[i+1]?=tG u)(hp:dQ u fM=tR):
  ge am 278 #[tW (tG ⟨r,0,tM⟩),Z U d] w λe w'=>e= ud (ub (Ex.cells ⟨2,0,t.text,t.ln,t.cl⟩))/\bQ r lb cap T (i+1) w w':=by
 obtain⟨N,g⟩:=zE w.heap.size;obtain⟨W1,v⟩:=zE (w.alloc (uc #[Z U 0,Z U 0,tS ⟨#[]⟩,tS ⟨#[]⟩,tU tM 0 0,Z U 0,Z U 0] 313));have ue:=iR v g;have vr:W1.heap.size=N+1:=by rw[<-v];simp[g]
 have vt:W1.heap[N]?=tG (uc #[Z U 0,Z U 0,tS ⟨#[]⟩,tS ⟨#[]⟩,tU tM 0 0,Z U 0,Z U 0] 313 (0,0)):=by rw[<-v,<-g];exact alloc_at _ _
 have x:=h.grow (by rw[g];exact ue);have up:=zH (bJ W1 x K);have vu:=zH λW j=>bI W (x.grow j);have ur:∀W,Rd r lb cap T (i+1) W->ge am 273 #[tW (tG ⟨r,0,tM⟩),ub (Ex.cells ⟨2,0,t.text,t.ln,t.cl⟩)] W λen w'=>en= ud (ub (Ex.cells ⟨2,0,t.text,t.ln,t.cl⟩))/\aE W.heap.size W w':=λW j=>jS _ W j;have AF:=zH λs W j=>bF s W (x.grow j) K;have uv:cj (∀W,Rd r lb cap T (i+1) W->zP 172 #[tW (tG ⟨r,0,tM⟩),tS fM] W (ua (dQ u fM))):=λW j=>bF _ W j hu;rw[hp] at uv;unfold fM at uv;simp only[Tok.cells,q] at up;unfold Ex.cells at ur;have yk:=zH ur;have hst:∀(w:World)(c:eA cA),c.size=5->(dt ⟨w.heap.size,0,tM⟩ [Z U t.kind,tS t.text,Z U t.n,Z U t.ln,Z U t.cl] 0).run am (w.alloc (uc c 263))= .ok () (w.alloc (uc #[Z U t.kind,tS t.text,Z U t.n,Z U t.ln,Z U t.cl] 263)):=λw c hc=>
  cx (P:=am) w 263 c #[Z U t.kind,tS t.text,Z U t.n,Z U t.ln,Z U t.cl] (by show _=tG 5;kernel_rfl) hc (by simp[ct])
 have vx:∀(w:World)(c:eA cA),c.size=7->(dt ⟨w.heap.size,0,tM⟩ [Z U 0,Z U 0,tS ⟨#[]⟩,tS ⟨#[]⟩,tU tM 0 0,Z U t.ln,Z U t.cl] 0).run am (w.alloc (uc c 313))= .ok () (w.alloc (uc #[Z U 0,Z U 0,tS ⟨#[]⟩,tS ⟨#[]⟩,tU tM 0 0,Z U t.ln,Z U t.cl] 313)):=λw c hc=>
  cx (P:=am) w 313 c #[Z U 0,Z U 0,tS ⟨#[]⟩,tS ⟨#[]⟩,tU tM 0 0,Z U t.ln,Z U t.cl] (by show _=tG 7;kernel_rfl) hc (by simp[ct])
 rw[q] at hst;have yp:=zH hst;have yq:=zH vx;have AH:i<T.length:=(bl.1 K).1;have hT:=h.short;have AI:r<N:=by rw[<-g];exact h.rlt
 have vy:cj (lb<N):=by unfold cj;rw[<-g];exact h.lt
 have yr:=zH v;have yv:=zH ue;have ux:=zH vr;have yy:=zH vt;have H1:=zH x;clear h K ur hst vx v ue vr vt x q hu hp;go_enter func278,ntmps278
 go_upto_region 2 with(go_at_call 170;rw[yr.out];refine up.out.mono ?_;rintro e w2 ⟨rfl,we⟩;have yW:=yp.out w2;have wg:=zH we;clear we)
 clear yW;obtain⟨G,y⟩:=zE w2.heap.size;obtain⟨R,z⟩:=zE (w2.alloc (uc #[Z U 1,tS t.text,Z U t.n,Z U t.ln,Z U t.cl] 263));rw[y,z];have wj:=zD z wg;have vc:R.heap.size=G+1:=by rw[<-z,<-y];simp
 have AK:N+1<=G:=by rw[<-y,<-ux.out];exact wg.out.size
 have vd:R.heap[G]?=tG (uc #[Z U 1,tS t.text,Z U t.n,Z U t.ln,Z U t.cl] 263 (0,0)):=by rw[<-z,<-y];exact alloc_at _ _
 obtain⟨⟨g0,g1,g2,g3,g4⟩,_,AM⟩:=fU vd;have wk:=yq.out R;have zc:=zH wj;have zj:=zH vd;clear y z wj vd;rw[vc] at wk
 go_upto_region 4 with(fail)
 clear wk;obtain⟨f,o⟩:=zE (R.alloc (uc #[Z U 0,Z U 0,tS ⟨#[]⟩,tS ⟨#[]⟩,tU tM 0 0,Z U t.ln,Z U t.cl] 313));rw[o];have A:=zD o zc;have AN:f.heap.size=G+2:=by rw[<-o];simp[vc]
 have vf:f.heap[G+1]?=tG (uc #[Z U 0,Z U 0,tS ⟨#[]⟩,tS ⟨#[]⟩,tU tM 0 0,Z U t.ln,Z U t.cl] 313 (0,0)):=by rw[<-o,<-vc];exact alloc_at _ _
 have vh:f.heap[G]?=tG (uc #[Z U 1,tS t.text,Z U t.n,Z U t.ln,Z U t.cl] 263 (0,0)):=by rw[<-o];exact(cJ _ _ G (by omega)).trans zj.out
 have wl:=(A.block N (by have:=ux.out;omega)).trans yy.out;have h4:=H1.out.grow A;have zp:=zH (vu.out f A);have zs:=zH A;have zv:=zH vf;have AS:=zH vh;have An:=zH wl;have H4:=zH h4;obtain⟨c0,c1,c3,f1,hr⟩:=h4.cells;obtain⟨⟨g0,g1,g2,g3,g4⟩,_,At⟩:=fU vh;obtain⟨⟨e0,e1,e2,e3,e4,e5,e6⟩,⟨q0,q1,q2,q3,q4,q5,q6⟩,AT⟩:=eZ vf;clear o A vf vh wl h4 vu up
 go_upto_region 13 with(go_at_call 171;refine zp.out.mono ?_;rintro e w2 ⟨rfl,rfl⟩)
 obtain⟨E,J⟩:=zE (((f.setCell ⟨r,1,tM⟩ (Z U ((i:aw)+1))).setCell ⟨G+1,0,tM⟩ (Z U 2)).setCell ⟨G+1,2,tM⟩ (tS t.text));rw[J];have ws:bQ r lb cap T (i+1) w E:=by
  have a:bQ r lb cap T (i+1) f (f.setCell ⟨r,1,tM⟩ (Z U ((i:aw)+1))):=⟨H4.out.step,Ext.set1 f r 1 _⟩
  have hx:Ext (·=G+1) (f.setCell ⟨r,1,tM⟩ (Z U ((i:aw)+1))) E:=by rw[<-J];exact ae (ae (Ext.refl _ _) _) _
  have Ax:aE w.heap.size w f:=by rw[g];exact yv.out.trans (zs.out.mono (by rw[ux.out];omega))
  exact⟨a.1.ext hx (by omega) (by have:=vy.out;omega),(bQ.grown Ax a).2.trans hx (λk q=> .inr (by omega))⟩
 have xf:E.heap[G+1]?=tG (uc #[Z U 2,Z U 0,tS t.text,tS ⟨#[]⟩,tU tM 0 0,Z U t.ln,Z U t.cl] 313 (0,0)):=by
  rw[<-J];exact bk _ (G+1) 2 _ _ _ (bk _ (G+1) 0 _ _ _ ((dg _ _ _ (G+1) (by show G+1≠r;omega)).trans zv.out))
 have xj:E.heap[N]?=tG (uc #[Z U 0,Z U 0,tS ⟨#[]⟩,tS ⟨#[]⟩,tU tM 0 0,Z U 0,Z U 0] 313 (0,0)):=by
  rw[<-J];exact(dg _ _ _ N (by show N≠G+1;omega)).trans ((dg _ _ _ N (by show N≠G+1;omega)).trans ((dg _ _ _ N (by show N≠r;omega)).trans An.out))
 have xo:=zH ws;have xp:=zH xf;have xt:=zH xj;clear J ws xf xj c0 c1 c3 f1 hr e0 e1 e2 e3 e4 e5 e6 q0 q1 q2 q3 q4 q5 q6 g0 g1 g2 g3 g4 At
 go_upto_region 35 with(go_at_call 172;refine(uv.out E xo.out.1).mono ?_;rintro e W5 ⟨rfl,xF⟩;have vm:=zH xF;clear xF)
 have xT:=xo.out.grow vm.out;have yb:=(vm.out.block (G+1) (aa xp.out)).trans xp.out;have yd:=(vm.out.block N (aa xt.out)).trans xt.out;obtain⟨⟨e0,e1,e2,e3,e4,e5,e6⟩,⟨q0,q1,q2,q3,q4,q5,q6⟩,AW⟩:=eZ yb;have ye:=zH xT;have yi:=zH yd;clear xT yb yd
 skip
 go_wp2_with (go_at_call 273;refine(yk.out W5 ye.out.1).mono ?_;rintro e w6 ⟨rfl,vp⟩;have AD:=zH vp;have vq:=(vp.block N (aa yi.out)).trans yi.out;have AE:=zH vq;obtain⟨⟨p0,p1,p2,p3,p4,p5,p6⟩,⟨o0,o1,o2,o3,o4,o5,o6⟩,A0⟩:=eZ vq;clear vp vq)
 (try simp only[dk,Exit.then]);refine er (fk (P:=am) rfl _ _ N 313 _ (0,0) _ rfl (gN AE.out) iz rfl (by kernel_rfl)) rfl ?_;have hM:bQ r lb cap T (i+1) w w6:=ye.out.grow AD.out;exact⟨rfl,hM.1.ext (cK _ _ _ _ _ _ _ _ _) (by omega) (by have:=vy.out;omega),hM.2.trans (cK _ _ _ _ _ _ _ _ _) (λk q=> .inr (by omega))⟩
theorem uK {r lb cap:bh}{T:bj Tok}{i:bh}{t u:Tok}(d:aw)(w:World)(h:Rd r lb cap T i w)(ht:T[i]?=tG t)(q:t.kind=2)(hw:dQ t Fp=tP)(wg:dQ t Fj=tR)(hu:T[i+1]?=tG u)(wj:u.kind=1):
  ge am 278 #[tW (tG ⟨r,0,tM⟩),Z U d] w λe w'=>e= ud (ub (Ex.cells ⟨7,0,u.text,t.ln,t.cl⟩))/\bQ r lb cap T (i+1+1) w w':=by
 obtain⟨N,f⟩:=zE w.heap.size;obtain⟨W1,y⟩:=zE (w.alloc (uc #[Z U 0,Z U 0,tS ⟨#[]⟩,tS ⟨#[]⟩,tU tM 0 0,Z U 0,Z U 0] 313));have ux:=iR y f;have wk:W1.heap.size=N+1:=by rw[<-y];simp[f]
 have wl:W1.heap[N]?=tG (uc #[Z U 0,Z U 0,tS ⟨#[]⟩,tS ⟨#[]⟩,tU tM 0 0,Z U 0,Z U 0] 313 (0,0)):=by rw[<-y,<-f];exact alloc_at _ _
 have z:=h.grow (by rw[f];exact ux);have vc:=zH (bJ W1 z ht);have ws:=zH λW g=>bI W (z.grow g);have vd:∀W,Rd r lb cap T (i+1+1) W->ge am 273 #[tW (tG ⟨r,0,tM⟩),ub (Ex.cells ⟨7,0,u.text,t.ln,t.cl⟩)] W λen w'=>en= ud (ub (Ex.cells ⟨7,0,u.text,t.ln,t.cl⟩))/\aE W.heap.size W w':=λW g=>jS _ W g;have xf:=zH λs W g=>bF s W (z.grow g) ht;have vf:=zH (xf.out Fj);rw[wg] at vf;unfold Fj at vf;have vh:=zH (xf.out Fp);rw[hw] at vh;unfold Fp at vh;have At:cj (∀W,Rd r lb cap T (i+1) W->ge am 208 #[tW (tG ⟨r,0,tM⟩)] W λe w'=>e= ud (.tuple #[tS u.text,ub #[Z U u.ln,Z U u.cl]])/\bQ r lb cap T (i+1+1) W w'):=λW g=>eP W g hu wj;simp only[Tok.cells,q] at vc;unfold Ex.cells at vd;have Ax:=zH vd;have hst:∀(w:World)(c:eA cA),c.size=5->(dt ⟨w.heap.size,0,tM⟩ [Z U t.kind,tS t.text,Z U t.n,Z U t.ln,Z U t.cl] 0).run am (w.alloc (uc c 263))= .ok () (w.alloc (uc #[Z U t.kind,tS t.text,Z U t.n,Z U t.ln,Z U t.cl] 263)):=λw c hc=>
  cx (P:=am) w 263 c #[Z U t.kind,tS t.text,Z U t.n,Z U t.ln,Z U t.cl] (by show _=tG 5;kernel_rfl) hc (by simp[ct])
 have xj:∀(w:World)(c:eA cA),c.size=7->(dt ⟨w.heap.size,0,tM⟩ [Z U 0,Z U 0,tS ⟨#[]⟩,tS ⟨#[]⟩,tU tM 0 0,Z U t.ln,Z U t.cl] 0).run am (w.alloc (uc c 313))= .ok () (w.alloc (uc #[Z U 0,Z U 0,tS ⟨#[]⟩,tS ⟨#[]⟩,tU tM 0 0,Z U t.ln,Z U t.cl] 313)):=λw c hc=>
  cx (P:=am) w 313 c #[Z U 0,Z U 0,tS ⟨#[]⟩,tS ⟨#[]⟩,tU tM 0 0,Z U t.ln,Z U t.cl] (by show _=tG 7;kernel_rfl) hc (by simp[ct])
 rw[q] at hst;have AD:=zH hst;have AE:=zH xj;have A4:i<T.length:=(bl.1 ht).1;have hT:=h.short;have A5:r<N:=by rw[<-f];exact h.rlt
 have vm:cj (lb<N):=by unfold cj;rw[<-f];exact h.lt
 have AF:=zH y;have AH:=zH ux;have vp:=zH wk;have AI:=zH wl;have H1:=zH z;clear h ht vd hst xj y ux wk wl z q hw wg hu wj;go_enter func278,ntmps278
 go_upto_region 2 with(go_at_call 170;rw[AF.out];refine vc.out.mono ?_;rintro e w2 ⟨rfl,xo⟩;have AK:=AD.out w2;have xp:=zH xo;clear xo)
 clear AK;obtain⟨G,A⟩:=zE w2.heap.size;obtain⟨W3,E⟩:=zE (w2.alloc (uc #[Z U 2,tS t.text,Z U t.n,Z U t.ln,Z U t.cl] 263));rw[A,E];have xt:=zD E xp;have vq:W3.heap.size=G+1:=by rw[<-E,<-A];simp
 have A6:N+1<=G:=by rw[<-A,<-vp.out];exact xp.out.size
 have vr:W3.heap[G]?=tG (uc #[Z U 2,tS t.text,Z U t.n,Z U t.ln,Z U t.cl] 263 (0,0)):=by rw[<-E,<-A];exact alloc_at _ _
 obtain⟨⟨g0,g1,g2,g3,g4⟩,_,Bk⟩:=fU vr;have xF:=AE.out W3;have AM:=zH xt;have AN:=zH vr;clear A E xt vr;rw[vq] at xF
 go_upto_region 4 with(fail)
 clear xF;obtain⟨J,v⟩:=zE (W3.alloc (uc #[Z U 0,Z U 0,tS ⟨#[]⟩,tS ⟨#[]⟩,tU tM 0 0,Z U t.ln,Z U t.cl] 313));rw[v];have K:=zD v AM;have Bm:J.heap.size=G+2:=by rw[<-v];simp[vq]
 have xT:J.heap[G+1]?=tG (uc #[Z U 0,Z U 0,tS ⟨#[]⟩,tS ⟨#[]⟩,tU tM 0 0,Z U t.ln,Z U t.cl] 313 (0,0)):=by rw[<-v,<-vq];exact alloc_at _ _
 have vt:J.heap[G]?=tG (uc #[Z U 2,tS t.text,Z U t.n,Z U t.ln,Z U t.cl] 263 (0,0)):=by rw[<-v];exact(cJ _ _ G (by omega)).trans AN.out
 have yb:=(K.block N (by have:=vp.out;omega)).trans AI.out;have h4:=H1.out.grow K;have AS:=zH (ws.out J K);have R:=zH K;have yd:=zH xT;have Bs:=zH vt;have ye:=zH yb;have H4:=zH h4;obtain⟨⟨g0,g1,g2,g3,g4⟩,_,By⟩:=fU vt;clear v K xT vt yb h4 ws vc
 go_upto_region 19 with(first
  |(go_at_call 171;refine AS.out.mono ?_;rintro e w2 ⟨rfl,rfl⟩)
  |(go_at_call 172;refine(vf.out J R.out).mono ?_;rintro e W6 ⟨rfl,j⟩;have vu:=zH (R.out.trans (j.mono R.out.size));have yi:=zH j;clear j))
 go_upto_region 20 with(go_at_call 172;refine(vh.out W6 vu.out).mono ?_;rintro e x ⟨rfl,yk⟩;have up:=zH (yi.out.trans (yk.mono yi.out.size));clear yk)
 have h7:=H4.out.grow up.out;have vx:=(up.out.block (G+1) (aa yd.out)).trans yd.out;have yp:=(up.out.block N (aa ye.out)).trans ye.out;obtain⟨c0,c1,c3,f1,hr⟩:=h7.cells;obtain⟨⟨e0,e1,e2,e3,e4,e5,e6⟩,⟨q0,q1,q2,q3,q4,q5,q6⟩,AT⟩:=eZ vx;have H7:=zH h7;have AW:=zH vx;have A0:=zH yp;clear h7 vx yp
 go_upto_region 22 with(fail)
 obtain⟨W8,ue⟩:=zE ((x.setCell ⟨r,1,tM⟩ (Z U ((i:aw)+1))).setCell ⟨G+1,0,tM⟩ (Z U 7));rw[ue];have yq:bQ r lb cap T (i+1) w W8:=by
  have a:bQ r lb cap T (i+1) x (x.setCell ⟨r,1,tM⟩ (Z U ((i:aw)+1))):=⟨H7.out.step,Ext.set1 x r 1 _⟩
  have hx:Ext (·=G+1) (x.setCell ⟨r,1,tM⟩ (Z U ((i:aw)+1))) W8:=by rw[<-ue];exact ae (Ext.refl _ _) _
  have A1:aE w.heap.size w x:=by rw[f];exact AH.out.trans ((R.out.trans (up.out.mono R.out.size)).mono (by rw[vp.out];omega))
  exact⟨a.1.ext hx (by omega) (by have:=vm.out;omega),(bQ.grown A1 a).2.trans hx (λk q=> .inr (by omega))⟩
 have yr:W8.heap[G+1]?=tG (uc #[Z U 7,Z U 0,tS ⟨#[]⟩,tS ⟨#[]⟩,tU tM 0 0,Z U t.ln,Z U t.cl] 313 (0,0)):=by
  rw[<-ue];exact bk _ (G+1) 0 _ _ _ ((dg _ _ _ (G+1) (by show G+1≠r;omega)).trans AW.out)
 have yv:W8.heap[N]?=tG (uc #[Z U 0,Z U 0,tS ⟨#[]⟩,tS ⟨#[]⟩,tU tM 0 0,Z U 0,Z U 0] 313 (0,0)):=by
  rw[<-ue];exact(dg _ _ _ N (by show N≠G+1;omega)).trans ((dg _ _ _ N (by show N≠r;omega)).trans A0.out)
 have yy:=zH yq;have yW:=zH yr;have A2:=zH yv;clear ue yq yr yv c0 c1 c3 f1 hr e0 e1 e2 e3 e4 e5 e6 q0 q1 q2 q3 q4 q5 q6 AT
 go_upto_region 35 with(go_at_call 208;refine(At.out W8 yy.out.1).mono ?_;rintro e W9 ⟨rfl,o⟩;have vy:=zH o;have zc:=o.2.heap yW.out (by omega);obtain⟨⟨e0,e1,e2,e3,e4,e5,e6⟩,⟨q0,q1,q2,q3,q4,q5,q6⟩,BE⟩:=eZ zc;clear o zc)
 obtain⟨W5,ur⟩:=zE (W9.setCell ⟨G+1,2,tM⟩ (tS u.text));rw[ur];have uv:Ext (·=G+1) W9 W5:=by rw[<-ur];exact ae (Ext.refl _ _) _
 have o:=yy.out.trans vy.out;have zj:bQ r lb cap T (i+1+1) w W5:=⟨o.1.ext uv (by omega) (by have:=vm.out;omega),o.2.trans uv (λk q=> .inr (by omega))⟩
 have zp:W5.heap[G+1]?=tG (uc #[Z U 7,Z U 0,tS u.text,tS ⟨#[]⟩,tU tM 0 0,Z U t.ln,Z U t.cl] 313 (0,0)):=by
  rw[<-ur];exact bk _ (G+1) 2 _ _ _ (vy.out.2.heap yW.out (by omega))
 have zs:W5.heap[N]?=tG (uc #[Z U 0,Z U 0,tS ⟨#[]⟩,tS ⟨#[]⟩,tU tM 0 0,Z U 0,Z U 0] 313 (0,0)):=uv.heap (vy.out.2.heap A2.out (by omega)) (by omega);clear uv o;obtain⟨⟨e0,e1,e2,e3,e4,e5,e6⟩,⟨q0,q1,q2,q3,q4,q5,q6⟩,BT⟩:=eZ zp;have zv:=zH zj;have An:=zH zs;clear zj zp zs;clear ur
 go_wp2_with (go_at_call 273;refine(Ax.out W5 zv.out.1).mono ?_;rintro e w6 ⟨rfl,j⟩;have vu:=zH j;have we:=(j.block N (aa An.out)).trans An.out;have A3:=zH we;obtain⟨⟨p0,p1,p2,p3,p4,p5,p6⟩,⟨o0,o1,o2,o3,o4,o5,o6⟩,BY⟩:=eZ we;clear j we)
 (try simp only[dk,Exit.then]);refine er (fk (P:=am) rfl _ _ N 313 _ (0,0) _ rfl (gN A3.out) iz rfl (by kernel_rfl)) rfl ?_;have hM:bQ r lb cap T (i+1+1) w w6:=zv.out.grow vu.out;exact⟨rfl,hM.1.ext (cK _ _ _ _ _ _ _ _ _) (by omega) (by have:=vm.out;omega),hM.2.trans (cK _ _ _ _ _ _ _ _ _) (λk q=> .inr (by omega))⟩
def dV:bm:=⟨#[59]⟩
def BU:bm:=⟨#[45,62]⟩
theorem jZ {t:Tok}{s d:bm}(h:dQ t s=tP)(f:s≠d):dQ t d=tR:=by
 unfold dQ at h⊢;rw[fj] at h;have e:t.text=s:=eq_of_beq h.2;rw[e,cT.2 f,Bool.and_false]
theorem pW {t:Tok}(d:t.kind≠2)(e:t.kind≠4)(l:bj bm):mQ t l=tR:=by
 unfold mQ;rw[lx];intro s _;unfold dQ;rw[cT.2 d,cT.2 e];simp
theorem mq {t:Tok}{s:bm}(h:dQ t s=tP){l:bj bm}(d:∀x∈l,s≠x):mQ t l=tR:=by
 unfold mQ;rw[lx];intro x e;rw[jZ h (d x e)];simp
inductive fO (T:bj Tok) (i:bh):Ex->bh->Prop
 |num (t:Tok):T[i]?=tG t->t.kind=3->fO T i ⟨1,t.n,⟨#[]⟩,t.ln,t.cl⟩ (i+1)
 |var (t u:Tok):T[i]?=tG t->t.kind=1->T[i+1]?=tG u->dQ u fM=tR->fO T i ⟨2,0,t.text,t.ln,t.cl⟩ (i+1)
 |new (t u:Tok):T[i]?=tG t->t.kind=2->dQ t Fp=tP->T[i+1]?=tG u->u.kind=1->fO T i ⟨7,0,u.text,t.ln,t.cl⟩ (i+1+1)
theorem fO.first {T:bj Tok}{i k:bh}{e:Ex}(h:fO T i e k):∃t,T[i]?=tG t/\(t.kind=3\/t.kind=1\/dQ t Fp=tP)/\i<k:=by
 cases h with
 |num t d f=>exact⟨t,d,.inl f,by omega⟩
 |var t u d f=>exact⟨t,d,.inr (.inl f),by omega⟩
 |new t u d f g=>exact⟨t,d,.inr (.inr g),by omega⟩
theorem qW {r lb cap:bh}{T:bj Tok}{i k:bh}{e:Ex}(d:aw)(w:World)(h:Rd r lb cap T i w)(q:fO T i e k):
  ge am 278 #[tW (tG ⟨r,0,tM⟩),Z U d] w λv w'=>v= ud (ub e.cells)/\bQ r lb cap T k w w':=by
 cases q with
 |num t f g=>exact uI d w h f g
 |var t u f g j o=>exact uJ d w h f g j o
 |new t u f g j o x=>exact uK d w h f g j (jZ j (by decide)) o x
theorem uL {r lb cap:bh}{T:bj Tok}{i k:bh}{e:Ex}{z:Tok}(d:aw)(w:World)(h:Rd r lb cap T i w)(q:fO T i e k)(hz:T[k]?=tG z)(hs:dQ z dV=tP):
  ge am 276 #[tW (tG ⟨r,0,tM⟩),Z U d] w λu w'=>u= ud (ub e.cells)/\bQ r lb cap T k w w':=by
 obtain⟨N,f⟩:=zE w.heap.size;obtain⟨W1,j⟩:=zE ((w.alloc (uc #[Z U 0,Z U 0,tS ⟨#[]⟩,tS ⟨#[]⟩,tU tM 0 0,Z U 0,Z U 0] 313)).alloc (uc #[tS ⟨#[45]⟩,tS ⟨#[33]⟩] 9));have v:=vX j f;have ux:W1.heap.size=N+2:=by rw[<-j];simp[f]
 have vc:=vY j f;have vd:=zl j f;have y:=h.grow (by rw[f];exact v);obtain⟨t,ht,vf,yd⟩:=q.first
 have A:=iI (N+1) 2 [⟨#[45]⟩,⟨#[33]⟩] W1 y ht (by decide) (by omega) (λk x g=>by
  rw[bw _ _ _ _ _ _ vd]
  match k,g with
  |0,g=>simp at g;subst g;rfl
  |1,g=>simp at g;subst g;rfl)
 have vh:mQ t [⟨#[45]⟩,⟨#[33]⟩]=tR:=by
  rcases vf with h|h|h
  ·exact pW (by omega) (by omega) _
  ·exact pW (by omega) (by omega) _
  ·exact mq h (by decide)
 rw[vh] at A;have ws:=zH A;have E:∀W,Rd r lb cap T i W->ge am 278 #[tW (tG ⟨r,0,tM⟩),Z U d] W λu w'=>u= ud (ub e.cells)/\bQ r lb cap T k W w':=λW J=>qW d W J q;have K:cj (∀W,Rd r lb cap T k W->zP 172 #[tW (tG ⟨r,0,tM⟩),tS BU] W (ua (dQ z BU))):=λW J=>bF _ W J hz;rw[jZ hs (by decide)] at K;unfold BU at K;unfold Ex.cells at E⊢;have xf:=zH E;have hst:∀(w:World)(c:eA cA),c.size=7->(dt ⟨w.heap.size,0,tM⟩ [Z U e.kind,Z U e.n,tS e.nm,tS ⟨#[]⟩,tU tM 0 0,Z U e.ln,Z U e.cl] 0).run am (w.alloc (uc c 313))= .ok () (w.alloc (uc #[Z U e.kind,Z U e.n,tS e.nm,tS ⟨#[]⟩,tU tM 0 0,Z U e.ln,Z U e.cl] 313)):=λw c hc=>
  cx (P:=am) w 313 c #[Z U e.kind,Z U e.n,tS e.nm,tS ⟨#[]⟩,tU tM 0 0,Z U e.ln,Z U e.cl] (by show _=tG 7;kernel_rfl) hc (by simp[ct])
 have xj:=zH hst;have ye:r<N:=by rw[<-f];exact h.rlt
 have xo:cj (lb<N):=by unfold cj;rw[<-f];exact h.lt
 have xp:=zH j;have xt:=zH v;have vm:=zH ux;have xF:=zH vc;have H1:=zH y;clear h q hz hs j v ux vc vd y ht vf A vh E hst;go_enter func276,ntmps276
 go_upto_region 8 with(go_at_call 260;rw[xp.out];refine ws.out.mono ?_;rintro e w2 ⟨rfl,vp⟩;have R:=zH vp;clear vp)
 have H2:=zH (H1.out.grow R.out);have vq:=zH ((R.out.block N (by rw[vm.out];omega)).trans xF.out)
 go_upto_region 9 with(go_at_call 278;refine(xf.out w2 H2.out).mono ?_;rintro e w3 ⟨rfl,vr⟩;have ue:=zH vr;have xT:=xj.out w3;clear vr)
 clear xT;obtain⟨G,hG⟩:=zE w3.heap.size;obtain⟨W4,o⟩:=zE (w3.alloc (uc #[Z U e.kind,Z U e.n,tS e.nm,tS ⟨#[]⟩,tU tM 0 0,Z U e.ln,Z U e.cl] 313));rw[hG,o];have up:=il o;have vt:aE w.heap.size w w2:=by rw[f];exact xt.out.trans (R.out.mono (by rw[vm.out];omega))
 have vu:bQ r lb cap T k w W4:=(bQ.grown vt ue.out).grow up;have vx:W4.heap[G]?=tG (uc #[Z U e.kind,Z U e.n,tS e.nm,tS ⟨#[]⟩,tU tM 0 0,Z U e.ln,Z U e.cl] 313 (0,0)):=by rw[<-o,<-hG];exact alloc_at _ _
 have vy:=(up.block N (aa (ue.out.2.heap vq.out (by omega)))).trans (ue.out.2.heap vq.out (by omega));have we:=zH vu;have wg:=zH vx;have wj:=zH vy;clear hG o up vt vu vx vy
 go_loopw [9] (λ_ wr=>wr=W4) (λ_ _=>0)
 case atStart=>rfl
 case round=>
  obtain rfl:=hrel
  go_upto_region 14 with(go_at_call 172;refine(K.out _ we.out.1).mono ?_;rintro e w5 ⟨rfl,wk⟩;have ur:=zH wk;clear wk)
  have wl:=(ur.out.block G (aa wg.out)).trans wg.out;have uv:=(ur.out.block N (aa wj.out)).trans wj.out;have yb:=zH uv;obtain⟨⟨g0,g1,g2,g3,g4,g5,g6⟩,_,yi⟩:=eZ wl;obtain⟨⟨p0,p1,p2,p3,p4,p5,p6⟩,⟨o0,o1,o2,o3,o4,o5,o6⟩,yk⟩:=eZ uv;clear wl uv;go_wp2;(try simp only[dk,Exit.then]);refine er (fk (P:=am) rfl _ _ N 313 _ (0,0) _ rfl (gN yb.out) iz rfl (by kernel_rfl)) rfl ?_;have hM:bQ r lb cap T k w w5:=we.out.grow ur.out;exact⟨rfl,hM.1.ext (cK _ _ _ _ _ _ _ _ _) (by omega) (by have:=xo.out;omega),hM.2.trans (cK _ _ _ _ _ _ _ _ _) (λk hk=> .inr (by omega))⟩
def opsOf (q:bh):bj bm:=match q with
 |0=>[⟨#[42]⟩,⟨#[47]⟩,⟨#[37]⟩]
 |1=>[⟨#[43]⟩,⟨#[45]⟩]
 |_=>[⟨#[61,61]⟩,⟨#[33,61]⟩,⟨#[60]⟩,⟨#[60,61]⟩,⟨#[62]⟩,⟨#[62,61]⟩]
def zA:eA cA:=#[tS ⟨#[42]⟩,tS ⟨#[47]⟩,tS ⟨#[37]⟩]
def Du:eA cA:=#[tS ⟨#[43]⟩,tS ⟨#[45]⟩]
def Fq:eA cA:=#[tS ⟨#[61,61]⟩,tS ⟨#[33,61]⟩,tS ⟨#[60]⟩,tS ⟨#[60,61]⟩,tS ⟨#[62]⟩,tS ⟨#[62,61]⟩]
def pX (w:World)(N:bh):World:=
 ((((w.alloc (uc #[Z U 0,Z U 0,tS ⟨#[]⟩,tS ⟨#[]⟩,tU tM 0 0,Z U 0,Z U 0] 313)).alloc (uc #[tS ⟨#[42]⟩,tS ⟨#[47]⟩,tS ⟨#[37]⟩] 9)).alloc (uc #[tS ⟨#[43]⟩,tS ⟨#[45]⟩] 9)).alloc
  (uc #[tS ⟨#[61,61]⟩,tS ⟨#[33,61]⟩,tS ⟨#[60]⟩,tS ⟨#[60,61]⟩,tS ⟨#[62]⟩,tS ⟨#[62,61]⟩] 9)).alloc (uc #[tU (tG ⟨N+1,0,tM⟩) 3 3,tU (tG ⟨N+2,0,tM⟩) 2 2,tU (tG ⟨N+3,0,tM⟩) 6 6] 223)
structure xI (w W:World)(N:bh):Prop where
 low:aE N w W
 size:W.heap.size=N+5
 res:W.heap[N]?=tG (uc #[Z U 0,Z U 0,tS ⟨#[]⟩,tS ⟨#[]⟩,tU tM 0 0,Z U 0,Z U 0] 313 (0,0))
 r0:W.heap[N+1]?=tG (uc zA 9 (0,0))
 r1:W.heap[N+2]?=tG (uc Du 9 (0,0))
 r2:W.heap[N+3]?=tG (uc Fq 9 (0,0))
 out:W.heap[N+4]?=tG (uc #[tU (tG ⟨N+1,0,tM⟩) 3 3,tU (tG ⟨N+2,0,tM⟩) 2 2,tU (tG ⟨N+3,0,tM⟩) 6 6] 223 (0,0))
theorem sG (w:World)(N:bh)(d:w.heap.size=N):xI w (pX w N) N:=by
 unfold pX;refine⟨(((((aq N w).alloc (by omega) _).alloc (by simp<;>omega) _).alloc (by simp<;>omega) _).alloc (by simp<;>omega) _).alloc (by simp<;>omega) _,by simp[d], ?_, ?_, ?_, ?_, ?_⟩
 ·refine(cJ _ _ N (by simp;omega)).trans ((cJ _ _ N (by simp;omega)).trans ((cJ _ _ N (by simp;omega)).trans ((cJ _ _ N (by simp;omega)).trans ?_)))
  rw[<-d];exact alloc_at _ _
 ·refine(cJ _ _ (N+1) (by simp;omega)).trans ((cJ _ _ (N+1) (by simp;omega)).trans ((cJ _ _ (N+1) (by simp;omega)).trans ?_))
  have:=alloc_at (w.alloc (uc #[Z U 0,Z U 0,tS ⟨#[]⟩,tS ⟨#[]⟩,tU tM 0 0,Z U 0,Z U 0] 313)) (uc zA 9);rw[World.size_alloc,d] at this;exact this
 ·refine(cJ _ _ (N+2) (by simp;omega)).trans ((cJ _ _ (N+2) (by simp;omega)).trans ?_)
  have:=alloc_at ((w.alloc (uc #[Z U 0,Z U 0,tS ⟨#[]⟩,tS ⟨#[]⟩,tU tM 0 0,Z U 0,Z U 0] 313)).alloc (uc zA 9)) (uc Du 9);rw[World.size_alloc,World.size_alloc,d] at this;exact this
 ·refine(cJ _ _ (N+3) (by simp;omega)).trans ?_
  have:=alloc_at (((w.alloc (uc #[Z U 0,Z U 0,tS ⟨#[]⟩,tS ⟨#[]⟩,tU tM 0 0,Z U 0,Z U 0] 313)).alloc (uc zA 9)).alloc (uc Du 9)) (uc Fq 9);rw[World.size_alloc,World.size_alloc,World.size_alloc,d] at this;exact this
 ·have:=alloc_at ((((w.alloc (uc #[Z U 0,Z U 0,tS ⟨#[]⟩,tS ⟨#[]⟩,tU tM 0 0,Z U 0,Z U 0] 313)).alloc (uc zA 9)).alloc (uc Du 9)).alloc (uc Fq 9)) (uc #[tU (tG ⟨N+1,0,tM⟩) 3 3,tU (tG ⟨N+2,0,tM⟩) 2 2,tU (tG ⟨N+3,0,tM⟩) 6 6] 223)
  rw[World.size_alloc,World.size_alloc,World.size_alloc,World.size_alloc,d] at this;exact this
theorem BV {r lb cap:bh}{T:bj Tok}{i k:bh}{e:Ex}{z:Tok}(d:aw)(w:World)(h:Rd r lb cap T i w)(u:fO T i e k)(v:T[k]?=tG z)(x:dQ z dV=tP):
  ge am 272 #[tW (tG ⟨r,0,tM⟩),Z U (-1),Z U d] w λG w'=>G= ud (ub e.cells)/\bQ r lb cap T k w w':=by
 obtain⟨N,f⟩:=zE w.heap.size;have g:=sG w N f;obtain⟨W1,j⟩:=zE (pX w N);rw[j] at g;unfold pX at j;have y:=h.grow (show aE w.heap.size w W1 by rw[f];exact g.low);have o:=uL d W1 y u v x;unfold Ex.cells at o⊢;have J:=zH o;have ur:r<N:=by rw[<-f];exact h.rlt
 have K:cj (lb<N):=by unfold cj;rw[<-f];exact h.lt
 have R:=zH j;have A:=zH g;clear h u v x j g y o;go_enter func272,ntmps272
 go_upto_region 2 with(fail)
 rw[R.out]
 go_wp2_with (go_at_call 276;refine J.out.mono ?_;rintro e w3 ⟨rfl,q⟩;have t:=q.2.heap A.out.res (by omega);have ue:=zH q;have up:=zH t;obtain⟨⟨p0,p1,p2,p3,p4,p5,p6⟩,⟨o0,o1,o2,o3,o4,o5,o6⟩,uv⟩:=eZ t;clear q t)
 (try simp only[dk,Exit.then]);refine er (fk (P:=am) rfl _ _ N 313 _ (0,0) _ rfl (gN up.out) iz rfl (by kernel_rfl)) rfl ?_;have E:bQ r lb cap T k w w3:=bQ.grown (by rw[f];exact A.out.low) ue.out;exact⟨rfl,E.1.ext (cK _ _ _ _ _ _ _ _ _) (by omega) (by have:=K.out;omega),E.2.trans (cK _ _ _ _ _ _ _ _ _) (λk hk=> .inr (by omega))⟩
theorem ji {W:World}{b:bh}{l:bj bm}{d:eA cA}{t:gt}(h:W.heap[b]?=tG (uc d t (0,0)))(e:d=(l.map fz).toArray):pV W b l:=λk x f=>by
 rw[bw _ _ _ _ _ _ h,e];simp[f]
theorem D9 {w W:World}{N:bh}(h:xI w W N):∀(q:bh),q<3->pV W (N+1+q) (opsOf q)
 |0,_=>ji h.r0 rfl
 |1,_=>ji h.r1 rfl
 |2,_=>ji h.r2 rfl
theorem Ea {w W:World}{N:bh}(h:xI w W N):∀(q:bh),q<3->W.cell? ⟨N+4,q,tM⟩=tG (tU (tG ⟨N+1+q,0,tM⟩) (opsOf q).length (opsOf q).length)
 |0,_=>by rw[bw _ _ _ _ _ _ h.out];rfl
 |1,_=>by rw[bw _ _ _ _ _ _ h.out];rfl
 |2,_=>by rw[bw _ _ _ _ _ _ h.out];rfl
theorem Ik {z:Tok}(d:dQ z dV=tP):∀(q:bh),q<3->mQ z (opsOf q)=tR
 |0,_=>mq d (by decide)
 |1,_=>mq d (by decide)
 |2,_=>mq d (by decide)
theorem Gw:∀(q:bh),q<3->(opsOf q).length<=20
 |0,_=>by decide
 |1,_=>by decide
 |2,_=>by decide
theorem pV.ext {W d:World}{b:bh}{l:bj bm}{M:bh->Prop}(h:pV W b l)(e:Ext M W d)(f:b<W.heap.size)(g:¬M b):pV d b l:=λk x j=>by
 rw[e.cell (a:=⟨b,k,tM⟩) f g];exact h k x j
theorem xJ {r lb cap:bh}{T:bj Tok}{i k:bh}{e:Ex}{z:Tok}(q:bh)(t:q<3)(d:aw)(w:World)(h:Rd r lb cap T i w)(hl:fO T i e k)(hz:T[k]?=tG z)(hs:dQ z dV=tP)
  (ur:∀W,Rd r lb cap T i W->ge am 272 #[tW (tG ⟨r,0,tM⟩),Z U ((q:aw)-1),Z U d] W λy w'=>y= ud (ub e.cells)/\bQ r lb cap T k W w'):
  ge am 272 #[tW (tG ⟨r,0,tM⟩),Z U (q:aw),Z U d] w λy w'=>y= ud (ub e.cells)/\bQ r lb cap T k w w':=by
 obtain⟨N,o⟩:=zE w.heap.size;have f:=sG w N o;obtain⟨W1,u⟩:=zE (pX w N);rw[u] at f;unfold pX at u;have h1:=h.grow (show aE w.heap.size w W1 by rw[o];exact f.low);have A:=ur W1 h1;have E:∀W,Rd r lb cap T k W->Ext (·=r) W1 W->zP 260 #[tW (tG ⟨r,0,tM⟩),tU (tG ⟨N+1+q,0,tM⟩) (opsOf q).length (opsOf q).length] W (ua tR):=by
  intro W hW v;have xF:=v.size;have vy:=h.rlt;have we:=f.size;have wg:=(D9 f q t).ext v (by omega) (by omega);have:=iI (N+1+q) (opsOf q).length (opsOf q) W hW hz (Gw q t) (by omega) wg
  rwa [Ik hs q t] at this
 have J:∀W,Ext (·=r) W1 W->W.cell? ⟨N+4,q,tM⟩=tG (tU (tG ⟨N+1+q,0,tM⟩) (opsOf q).length (opsOf q).length):=by
  intro W v;have vy:=h.rlt;have we:=f.size;rw[v.cell (a:=⟨N+4,q,tM⟩) (by show N+4<_;omega) (by show¬N+4=r;omega)];exact Ea f q t
 obtain⟨OL,uv⟩:=zE ((opsOf q).length);rw[uv] at E J;unfold Ex.cells at A⊢;have wj:=zH A;have ux:=zH E;have vc:=zH J;have hst:∀(w:World)(c:eA cA),c.size=7->(dt ⟨w.heap.size,0,tM⟩ [Z U e.kind,Z U e.n,tS e.nm,tS ⟨#[]⟩,tU tM 0 0,Z U e.ln,Z U e.cl] 0).run am (w.alloc (uc c 313))= .ok () (w.alloc (uc #[Z U e.kind,Z U e.n,tS e.nm,tS ⟨#[]⟩,tU tM 0 0,Z U e.ln,Z U e.cl] 313)):=λw c hc=>
  cx (P:=am) w 313 c #[Z U e.kind,Z U e.n,tS e.nm,tS ⟨#[]⟩,tU tM 0 0,Z U e.ln,Z U e.cl] (by show _=tG 7;kernel_rfl) hc (by simp[ct])
 have wk:=zH hst;have xT:r<N:=by rw[<-o];exact h.rlt
 have wl:cj (lb<N):=by unfold cj;rw[<-o];exact h.lt
 have ws:=zH u;have K:=zH f;have yb:(q:aw)<3:=by omega
 clear h hl hz hs u f h1 A E J hst ur uv;go_enter func272,ntmps272
 go_upto_region 2 with(fail)
 rw[ws.out]
 go_upto_region 5 with(go_at_call 272;refine wj.out.mono ?_;rintro e R ⟨rfl,vd⟩;have xf:=zH vd;have xj:=wk.out R;clear vd)
 clear xj;obtain⟨G,hG⟩:=zE R.heap.size;obtain⟨g,x⟩:=zE (R.alloc (uc #[Z U e.kind,Z U e.n,tS e.nm,tS ⟨#[]⟩,tU tM 0 0,Z U e.ln,Z U e.cl] 313));rw[hG,x];have vf:=il x;have vh:aE w.heap.size w W1:=by rw[o];exact K.out.low
 have j:bQ r lb cap T k W1 g:=xf.out.grow vf;have vm:bQ r lb cap T k w g:=bQ.grown vh j;have vp:g.heap[G]?=tG (uc #[Z U e.kind,Z U e.n,tS e.nm,tS ⟨#[]⟩,tU tM 0 0,Z U e.ln,Z U e.cl] 313 (0,0)):=by rw[<-x,<-hG];exact alloc_at _ _
 have vq:=j.2.heap K.out.res (by omega);have xo:=zH (ux.out g j.1 j.2);have yd:=vc.out g j.2;have xp:=zH vm;have vr:=zH vp;have vt:=zH vq;have ye:N+4<g.heap.size:=aa (j.2.heap K.out.out (by omega));clear hG x vf vh j vm vp vq ux vc
 go_loopw [9] (λ_ wr=>wr=g) (λ_ _=>0)
 case atStart=>rfl
 case round=>
  obtain rfl:=hrel
  go_upto_region 11 with(go_at_call 260;refine xo.out.mono ?_;rintro e w5 ⟨rfl,vu⟩;have ue:=zH vu;clear vu)
  have vx:=(ue.out.block G (aa vr.out)).trans vr.out;have up:=(ue.out.block N (aa vt.out)).trans vt.out;have xt:=zH up;obtain⟨⟨g0,g1,g2,g3,g4,g5,g6⟩,_,yi⟩:=eZ vx;obtain⟨⟨p0,p1,p2,p3,p4,p5,p6⟩,⟨o0,o1,o2,o3,o4,o5,o6⟩,yk⟩:=eZ up;clear vx up;go_wp2;(try simp only[dk,Exit.then]);refine er (fk (P:=am) rfl _ _ N 313 _ (0,0) _ rfl (gN xt.out) iz rfl (by kernel_rfl)) rfl ?_;have hM:bQ r lb cap T k w w5:=xp.out.grow ue.out;exact⟨rfl,hM.1.ext (cK _ _ _ _ _ _ _ _ _) (by omega) (by have:=wl.out;omega),hM.2.trans (cK _ _ _ _ _ _ _ _ _) (λk hk=> .inr (by omega))⟩
theorem mY {r lb cap:bh}{T:bj Tok}{i k:bh}{e:Ex}{z:Tok}(d:aw)(f:fO T i e k)(g:T[k]?=tG z)(j:dQ z dV=tP):
  ∀(q:bh)(_:q<=3) (w:World) (_:Rd r lb cap T i w),ge am 272 #[tW (tG ⟨r,0,tM⟩),Z U ((q:aw)-1),Z U d] w λo w'=>o= ud (ub e.cells)/\bQ r lb cap T k w w'
 |0,_,w,h=>BV d w h f g j
 |q+1,u,w,h=>by
  have:=xJ q (by omega) d w h f g j (λW t=>mY d f g j q (by omega) W t);rw[show((q+1:bh):aw)-1=(q:aw) by omega];exact this
theorem oG {r lb cap:bh}{T:bj Tok}{i k:bh}{e:Ex}{z:Tok}(d:aw)(w:World)(h:Rd r lb cap T i w)(u:fO T i e k)(v:T[k]?=tG z)(x:dQ z dV=tP):
  ge am 263 #[tW (tG ⟨r,0,tM⟩),Z U d] w λG w'=>G= ud (ub e.cells)/\bQ r lb cap T k w w':=by
 obtain⟨N,f⟩:=zE w.heap.size;obtain⟨W1,g⟩:=zE (w.alloc (uc #[Z U 0,Z U 0,tS ⟨#[]⟩,tS ⟨#[]⟩,tU tM 0 0,Z U 0,Z U 0] 313));have o:=iR g f;have y:W1.heap[N]?=tG (uc #[Z U 0,Z U 0,tS ⟨#[]⟩,tS ⟨#[]⟩,tU tM 0 0,Z U 0,Z U 0] 313 (0,0)):=by rw[<-g,<-f];exact alloc_at _ _
 have A:=h.grow (by rw[f];exact o);have j:=mY d u v x 3 (cg _) W1 A;rw[show((3:bh):aw)-1=2 from rfl] at j;unfold Ex.cells at j⊢;have J:=zH j;have ux:r<N:=by rw[<-f];exact h.rlt
 have K:cj (lb<N):=by unfold cj;rw[<-f];exact h.lt
 have R:=zH g;have ue:=zH o;have up:=zH y;clear h u v x g o y A j;go_enter func263,ntmps263
 go_wp2_with (go_at_call 272;rw[R.out];refine J.out.mono ?_;rintro e w3 ⟨rfl,q⟩;have t:=q.2.heap up.out (by omega);have ur:=zH q;have uv:=zH t;obtain⟨⟨p0,p1,p2,p3,p4,p5,p6⟩,⟨o0,o1,o2,o3,o4,o5,o6⟩,vc⟩:=eZ t;clear q t)
 (try simp only[dk,Exit.then]);refine er (fk (P:=am) rfl _ _ N 313 _ (0,0) _ rfl (gN uv.out) iz rfl (by kernel_rfl)) rfl ?_;have E:bQ r lb cap T k w w3:=bQ.grown (by rw[f];exact ue.out) ur.out;exact⟨rfl,E.1.ext (cK _ _ _ _ _ _ _ _ _) (by omega) (by have:=K.out;omega),E.2.trans (cK _ _ _ _ _ _ _ _ _) (λk hk=> .inr (by omega))⟩
structure Sm where
 kind:aw
 ty:Ty
 nm:bm
 E:cA
 ln:aw
 cl:aw
 es:bj Ex
def Sm.cells (s:Sm):eA cA:=#[Z U s.kind,ua s.ty.1,tS s.ty.2,tS s.nm,s.E,tU tM 0 0,tU tM 0 0,Z U s.ln,Z U s.cl]
def Jj (e:Ex):bj cA:=e.cells.toList
def Sm.inn (B:bh)(w:World)(s:Sm):Prop:=
 (s.es=[]/\s.E= tU tM 0 0)\/∃g cap,s.E= tU (tG ⟨g,0,tM⟩) s.es.length cap/\B<=g/\w.heap[g]?=tG (uc (s.es.flatMap Jj).toArray 313 (0,0))
theorem Sm.inn.ext {B:bh}{w w':World}{s:Sm}{M:bh->Prop}(h:s.inn B w)(f:Ext M w w')(j:∀k,B<=k->k<w.heap.size->¬M k):s.inn B w':=by
 rcases h with h|⟨g,cap,o,d,e⟩
 ·exact .inl h
 ·exact .inr ⟨g,cap,o,d,f.heap e (j g d (aa e))⟩
theorem Sm.inn.mono {B B':bh}{w:World}{s:Sm}(h:s.inn B w)(d:B'<=B):s.inn B' w:=by
 rcases h with h|⟨g,cap,e,f,j⟩
 ·exact .inl h
 ·exact .inr ⟨g,cap,e,eJ d f,j⟩
structure qD where
 kind:aw
 ty:Ty
 nm:bm
 es:bj Ex
def Sm.shp (s:Sm):qD:=⟨s.kind,s.ty,s.nm,s.es⟩
def rJ:bm:=⟨#[114,101,116,117,114,110]⟩
def Dv:bm:=⟨#[102,114,101,101]⟩
def oH:bm:=⟨#[41]⟩
def IL:bm:=⟨#[61]⟩
def iZ (r lb cap:bh)(T:bj Tok)(w:World)(d:qD)(k:bh)(e:Ending)(w':World):Prop:=
 ∃s:Sm,e= ud (ub s.cells)/\s.shp=d/\s.inn w.heap.size w'/\bQ r lb cap T k w w'
theorem sH (l:bj UInt8):(⟨l.toArray⟩:bm).toList=l:=by rw[py]
theorem xK {t:Tok}{s:bm}(h:dQ t s=tP):t.text=s/\(t.kind=2\/t.kind=4):=by
 unfold dQ at h;rw[fj,js] at h;exact⟨eq_of_beq h.2,by rcases h.1 with h|h;exact .inl (eq_of_beq h);exact .inr (eq_of_beq h)⟩
theorem xL {r lb cap:bh}{T:bj Tok}{i k:bh}{t z:Tok}{e:Ex}(ln cl d:aw)(w:World)(h:Rd r lb cap T i w)(ht:T[i]?=tG t)(v:dQ t rJ=tP)(hl:fO T (i+1) e k)(hz:T[k]?=tG z)(hs:dQ z dV=tP):
  ge am 261 #[tW (tG ⟨r,0,tM⟩),ub #[Z U 0,ua tR,tS ⟨#[]⟩,tS ⟨#[]⟩,tU tM 0 0,tU tM 0 0,tU tM 0 0,Z U ln,Z U cl],Z U d] w (iZ r lb cap T w ⟨8,bM,⟨#[]⟩,[e]⟩ (k+1)):=by
 obtain⟨N,g⟩:=zE w.heap.size;obtain⟨W1,o⟩:=zE ((w.alloc (uc #[Z U 0,ua tR,tS ⟨#[]⟩,tS ⟨#[]⟩,tU tM 0 0,tU tM 0 0,tU tM 0 0,Z U ln,Z U cl] 282)).alloc (uc #[Z U 0,ua tR,tS ⟨#[]⟩,tS ⟨#[]⟩,tU tM 0 0,tU tM 0 0,tU tM 0 0,Z U 0,Z U 0] 282));have uv:=vX o g;have vu:W1.heap.size=N+2:=by rw[<-o];simp[g]
 have vx:=vY o g;have vy:=zl o g;have h1:=h.grow (by rw[g];exact uv);have we:=zH (bJ W1 h1 ht);have ux:∀W,Rd r lb cap T (i+1) W->ge am 263 #[tW (tG ⟨r,0,tM⟩),Z U d] W λen w'=>en= ud (ub e.cells)/\bQ r lb cap T k W w':=λW hW=>oG d W hW hl hz hs;unfold Ex.cells at ux;have yp:=zH ux;have wg:cj (∀W,Rd r lb cap T k W->ge am 207 #[tW (tG ⟨r,0,tM⟩),tS dV] W λe w'=>e= ud (.tuple #[])/\bQ r lb cap T (k+1) W w'):=λW hW=>bi dV W hW hz hs;unfold dV at wg;obtain⟨vc,_⟩:=xK v;obtain⟨f,q⟩:=zE t.text;have hst:∀(w:World)(c:eA cA),c.size=5->(dt ⟨w.heap.size,0,tM⟩ [Z U t.kind,tS f,Z U t.n,Z U t.ln,Z U t.cl] 0).run am (w.alloc (uc c 263))= .ok () (w.alloc (uc #[Z U t.kind,tS f,Z U t.n,Z U t.ln,Z U t.cl] 263)):=λw c hc=>
  cx (P:=am) w 263 c #[Z U t.kind,tS f,Z U t.n,Z U t.ln,Z U t.cl] (by show _=tG 5;kernel_rfl) hc (by simp[ct])
 have yq:=zH hst;simp only[Tok.cells,q] at we;rw[q] at vc;have u:f.toList=[114,101,116,117,114,110]:=by rw[vc];exact sH [114,101,116,117,114,110]
 have x1:(f.toList==[105,102])=tR:=by rw[u];rfl
 have x2:(f.toList==[119,104,105,108,101])=tR:=by rw[u];rfl
 have x3:(f.toList==[98,114,101,97,107])=tR:=by rw[u];rfl
 have x4:(f.toList==[99,111,110,116,105,110,117,101])=tR:=by rw[u];rfl
 have x5:(f.toList==[114,101,116,117,114,110])=tP:=by rw[u];rfl
 have AK:i<T.length:=(bl.1 ht).1;have hT:=h.short;have AM:r<N:=by rw[<-g];exact h.rlt
 have vd:cj (lb<N):=by unfold cj;rw[<-g];exact h.lt
 have yr:=zH o;have yv:=zH uv;have K:=zH vu;have yy:=zH vx;have yW:=zH vy;have H1:=zH h1;clear h ht v hl hz hs o uv vu vx vy h1 ux vc q hst u;go_enter func261,ntmps261
 go_upto_region 2 with(go_at_call 170;rw[yr.out];refine we.out.mono ?_;rintro e w2 ⟨rfl,wj⟩;have zc:=yq.out w2;have wk:=zH wj;clear wj)
 clear zc;obtain⟨G,R⟩:=zE w2.heap.size;obtain⟨j,ue⟩:=zE (w2.alloc (uc #[Z U t.kind,tS f,Z U t.n,Z U t.ln,Z U t.cl] 263));rw[R,ue];have x:=zD ue wk;have AN:N+2<=G:=by rw[<-R,<-K.out];exact wk.out.size
 have wl:j.heap[G]?=tG (uc #[Z U t.kind,tS f,Z U t.n,Z U t.ln,Z U t.cl] 263 (0,0)):=by rw[<-ue,<-R];exact alloc_at _ _
 obtain⟨⟨g0,g1,g2,g3,g4⟩,_,AS⟩:=fU wl;have vf:=(x.block N (by have:=K.out;omega)).trans yy.out;have ws:=(x.block (N+1) (by have:=K.out;omega)).trans yW.out;obtain⟨⟨a0,a1,a2,a3,a4,a5,a6,a7,a8⟩,⟨b0,b1,b2,b3,b4,b5,b6,b7,b8⟩,zj⟩:=fV vf;have h3:=H1.out.grow x;obtain⟨c0,c1,c3,f1,hr⟩:=h3.cells;have zp:=zH x;have zs:=zH vf;have zv:=zH ws;have H3:=zH h3;clear R ue x wl vf ws h3
 go_upto_region 23 with(fail)
 obtain⟨y,A⟩:=zE ((j.setCell ⟨r,1,tM⟩ (Z U ((i:aw)+1))).setCell ⟨N,0,tM⟩ (Z U 8));rw[A];have xf:bQ r lb cap T (i+1) w y:=by
  have a:bQ r lb cap T (i+1) j (j.setCell ⟨r,1,tM⟩ (Z U ((i:aw)+1))):=⟨H3.out.step,Ext.set1 j r 1 _⟩
  have q:Ext (·=N) (j.setCell ⟨r,1,tM⟩ (Z U ((i:aw)+1))) y:=by rw[<-A];exact ae (Ext.refl _ _) _
  have An:aE w.heap.size w j:=by rw[g];exact yv.out.trans (zp.out.mono (by rw[K.out];omega))
  exact⟨a.1.ext q (by omega) (by have:=vd.out;omega),(bQ.grown An a).2.trans q (λk v=> .inr (by omega))⟩
 have xj:y.heap[N]?=tG (uc #[Z U 8,ua tR,tS ⟨#[]⟩,tS ⟨#[]⟩,tU tM 0 0,tU tM 0 0,tU tM 0 0,Z U ln,Z U cl] 282 (0,0)):=by
  rw[<-A];exact bk _ N 0 _ _ _ ((dg _ _ _ N (by show N≠r;omega)).trans zs.out)
 have xo:y.heap[N+1]?=tG (uc #[Z U 0,ua tR,tS ⟨#[]⟩,tS ⟨#[]⟩,tU tM 0 0,tU tM 0 0,tU tM 0 0,Z U 0,Z U 0] 282 (0,0)):=by
  rw[<-A];exact(dg _ _ _ (N+1) (by show N+1≠N;omega)).trans ((dg _ _ _ (N+1) (by show N+1≠r;omega)).trans zv.out)
 have xp:=zH xf;have At:=zH xj;have xt:=zH xo;clear A xf xj xo a0 a1 a2 a3 a4 a5 a6 a7 a8 b0 b1 b2 b3 b4 b5 b6 b7 b8 c0 c1 c3 f1 hr g0 g1 g2 g3 g4 zj
 go_upto_region 34 with(go_at_call 263;refine(yp.out y xp.out.1).mono ?_;rintro e w5 ⟨rfl,vh⟩;have vm:=zH vh;have vp:=vh.2.heap At.out (by omega);have Ax:=zH vp;obtain⟨⟨a0,a1,a2,a3,a4,a5,a6,a7,a8⟩,⟨b0,b1,b2,b3,b4,b5,b6,b7,b8⟩,AD⟩:=fV vp;clear vh vp)
 obtain⟨Q,hQ⟩:=zE w5.heap.size;rw[hQ];obtain⟨E,J⟩:=zE ((w5.setCell ⟨N,4,tM⟩ (tU (tG ⟨Q,0,tM⟩) 1 1)).alloc (uc #[Z U e.kind,Z U e.n,tS e.nm,tS ⟨#[]⟩,tU tM 0 0,Z U e.ln,Z U e.cl] 313));rw[J];have up:Ext (·=N) w5 E:=by rw[<-J];exact(ae (Ext.refl _ _) _).alloc _
 have AT:N+1<Q:=by rw[<-hQ];exact aa (vm.out.2.heap xt.out (by omega))
 have xF:E.heap[Q]?=tG (uc #[Z U e.kind,Z U e.n,tS e.nm,tS ⟨#[]⟩,tU tM 0 0,Z U e.ln,Z U e.cl] 313 (0,0)):=by
  have:=alloc_at (w5.setCell ⟨N,4,tM⟩ (tU (tG ⟨Q,0,tM⟩) 1 1)) (uc #[Z U e.kind,Z U e.n,tS e.nm,tS ⟨#[]⟩,tU tM 0 0,Z U e.ln,Z U e.cl] 313);rw[World.size_setCell,hQ,J] at this;exact this
 have xT:E.heap[N]?=tG (uc #[Z U 8,ua tR,tS ⟨#[]⟩,tS ⟨#[]⟩,tU (tG ⟨Q,0,tM⟩) 1 1,tU tM 0 0,tU tM 0 0,Z U ln,Z U cl] 282 (0,0)):=by
  rw[<-J];exact(cJ _ _ N (by rw[World.size_setCell];omega)).trans (bk _ N 4 _ _ _ Ax.out)
 have yb:=up.heap (vm.out.2.heap xt.out (by omega)) (show¬N+1=N by omega);have vq:=xp.out.trans vm.out;have yd:bQ r lb cap T k w E:=⟨vq.1.ext up (by omega) (by have:=vd.out;omega),vq.2.trans up (λk v=> .inr (by omega))⟩
 have ye:=zH yd;have AE:=zH xF;have AF:=zH xT;have AH:=zH yb;clear hQ J up xF xT yb vq yd a0 a1 a2 a3 a4 a5 a6 a7 a8 b0 b1 b2 b3 b4 b5 b6 b7 b8 AD
 go_wp2_with (go_at_call 207;refine(wg.out E ye.out.1).mono ?_;rintro e w7 ⟨rfl,ur⟩;have yi:=zH ur;have yk:=ur.2.heap AF.out (by omega);have vr:=ur.2.heap AH.out (by omega);have AI:=zH vr;obtain⟨⟨a0,a1,a2,a3,a4,a5,a6,a7,a8⟩,⟨b0,b1,b2,b3,b4,b5,b6,b7,b8⟩,AW⟩:=fV yk;obtain⟨⟨p0,p1,p2,p3,p4,p5,p6,p7,p8⟩,⟨q0,q1,q2,q3,q4,q5,q6,q7,q8⟩,A0⟩:=fV vr;clear ur yk vr)
 (try simp only[dk,Exit.then]);refine er (fk (P:=am) rfl _ _ (N+1) 282 _ (0,0) _ rfl (lw AI.out) m9 rfl (by kernel_rfl)) rfl ?_;have hM:=ye.out.trans yi.out;have vt:=lD w7 (N+1) (Z U 8) (ua tR) (tS ⟨#[]⟩) (tS ⟨#[]⟩) (tU (tG ⟨Q,0,tM⟩) 1 1) (tU tM 0 0) (tU tM 0 0) (Z U ln) (Z U cl);refine⟨⟨8,bM,⟨#[]⟩,tU (tG ⟨Q,0,tM⟩) 1 1,ln,cl,[e]⟩,rfl,rfl,.inr ⟨Q,1,rfl,by omega, ?_⟩,hM.1.ext vt (by omega) (by have:=vd.out;omega),hM.2.trans vt (λk v=> .inr (by omega))⟩;exact vt.heap (yi.out.2.heap AE.out (by omega)) (by omega)
theorem uM {r lb cap:bh}{T:bj Tok}{i:bh}{t u x v z:Tok}(ln cl d:aw)(w:World)(h:Rd r lb cap T i w)(ht:T[i]?=tG t)(J:dQ t Dv=tP)(hu:T[i+1]?=tG u)(vy:dQ u fM=tP)(we:T[i+2]?=tG x)(wg:x.kind=1)(hv:T[i+3]?=tG v)(wj:dQ v oH=tP)(hz:T[i+4]?=tG z)(hs:dQ z dV=tP):
  ge am 261 #[tW (tG ⟨r,0,tM⟩),ub #[Z U 0,ua tR,tS ⟨#[]⟩,tS ⟨#[]⟩,tU tM 0 0,tU tM 0 0,tU tM 0 0,Z U ln,Z U cl],Z U d] w (iZ r lb cap T w ⟨9,bM,x.text,[]⟩ (i+5)):=by
 obtain⟨N,g⟩:=zE w.heap.size;obtain⟨W1,y⟩:=zE ((w.alloc (uc #[Z U 0,ua tR,tS ⟨#[]⟩,tS ⟨#[]⟩,tU tM 0 0,tU tM 0 0,tU tM 0 0,Z U ln,Z U cl] 282)).alloc (uc #[Z U 0,ua tR,tS ⟨#[]⟩,tS ⟨#[]⟩,tU tM 0 0,tU tM 0 0,tU tM 0 0,Z U 0,Z U 0] 282));have vh:=vX y g;have wk:W1.heap.size=N+2:=by rw[<-y];simp[g]
 have wl:=vY y g;have ws:=zl y g;have h1:=h.grow (by rw[g];exact vh);have xf:=zH (bJ W1 h1 ht);have xj:cj (∀W,Rd r lb cap T (i+1) W->ge am 207 #[tW (tG ⟨r,0,tM⟩),tS fM] W λe w'=>e= ud (.tuple #[])/\bQ r lb cap T (i+2) W w'):=λW j=>bi fM W j hu vy;have xo:cj (∀W,Rd r lb cap T (i+3) W->ge am 207 #[tW (tG ⟨r,0,tM⟩),tS oH] W λe w'=>e= ud (.tuple #[])/\bQ r lb cap T (i+4) W w'):=λW j=>bi oH W j hv wj;have xp:cj (∀W,Rd r lb cap T (i+4) W->ge am 207 #[tW (tG ⟨r,0,tM⟩),tS dV] W λe w'=>e= ud (.tuple #[])/\bQ r lb cap T (i+5) W w'):=λW j=>bi dV W j hz hs;have zc:cj (∀W,Rd r lb cap T (i+2) W->ge am 208 #[tW (tG ⟨r,0,tM⟩)] W λe w'=>e= ud (.tuple #[tS x.text,ub #[Z U x.ln,Z U x.cl]])/\bQ r lb cap T (i+3) W w'):=λW j=>eP W j we wg;unfold fM at xj;unfold oH at xo;unfold dV at xp;obtain⟨vm,_⟩:=xK J;obtain⟨f,A⟩:=zE t.text;have hst:∀(w:World)(c:eA cA),c.size=5->(dt ⟨w.heap.size,0,tM⟩ [Z U t.kind,tS f,Z U t.n,Z U t.ln,Z U t.cl] 0).run am (w.alloc (uc c 263))= .ok () (w.alloc (uc #[Z U t.kind,tS f,Z U t.n,Z U t.ln,Z U t.cl] 263)):=λw c hc=>
  cx (P:=am) w 263 c #[Z U t.kind,tS f,Z U t.n,Z U t.ln,Z U t.cl] (by show _=tG 5;kernel_rfl) hc (by simp[ct])
 have zj:=zH hst;simp only[Tok.cells,A] at xf;rw[A] at vm;have o:f.toList=[102,114,101,101]:=by rw[vm];exact sH [102,114,101,101]
 have x1:(f.toList==[105,102])=tR:=by rw[o];rfl
 have x2:(f.toList==[119,104,105,108,101])=tR:=by rw[o];rfl
 have x3:(f.toList==[98,114,101,97,107])=tR:=by rw[o];rfl
 have x4:(f.toList==[99,111,110,116,105,110,117,101])=tR:=by rw[o];rfl
 have x5:(f.toList==[114,101,116,117,114,110])=tR:=by rw[o];rfl
 have x6:(f.toList==[102,114,101,101])=tP:=by rw[o];rfl
 have A1:i<T.length:=(bl.1 ht).1;have hT:=h.short;have A2:r<N:=by rw[<-g];exact h.rlt
 have vp:cj (lb<N):=by unfold cj;rw[<-g];exact h.lt
 have zp:=zH y;have zs:=zH vh;have ur:=zH wk;have zv:=zH wl;have An:=zH ws;have H1:=zH h1;clear h ht J hu vy we wg hv wj hz hs y vh wk wl ws h1 vm A hst o;go_enter func261,ntmps261
 go_upto_region 2 with(go_at_call 170;rw[zp.out];refine xf.out.mono ?_;rintro e w2 ⟨rfl,xt⟩;have At:=zj.out w2;have xF:=zH xt;clear xt)
 clear At;obtain⟨G,hG⟩:=zE w2.heap.size;obtain⟨q,uv⟩:=zE (w2.alloc (uc #[Z U t.kind,tS f,Z U t.n,Z U t.ln,Z U t.cl] 263));rw[hG,uv];have K:=zD uv xF;have A3:N+2<=G:=by rw[<-hG,<-ur.out];exact xF.out.size
 have xT:q.heap[G]?=tG (uc #[Z U t.kind,tS f,Z U t.n,Z U t.ln,Z U t.cl] 263 (0,0)):=by rw[<-uv,<-hG];exact alloc_at _ _
 obtain⟨⟨g0,g1,g2,g3,g4⟩,_,A4⟩:=fU xT;have vq:=(K.block N (by have:=ur.out;omega)).trans zv.out;have yb:=(K.block (N+1) (by have:=ur.out;omega)).trans An.out;obtain⟨⟨a0,a1,a2,a3,a4,a5,a6,a7,a8⟩,⟨b0,b1,b2,b3,b4,b5,b6,b7,b8⟩,Ax⟩:=fV vq;have h3:=H1.out.grow K;obtain⟨c0,c1,c3,f1,hr⟩:=h3.cells;have AD:=zH K;have AE:=zH vq;have AF:=zH yb;have H3:=zH h3;clear hG uv K xT vq yb h3
 go_upto_region 26 with(fail)
 obtain⟨R,ue⟩:=zE ((q.setCell ⟨r,1,tM⟩ (Z U ((i:aw)+1))).setCell ⟨N,0,tM⟩ (Z U 9));rw[ue];have yd:bQ r lb cap T (i+1) w R:=by
  have a:bQ r lb cap T (i+1) q (q.setCell ⟨r,1,tM⟩ (Z U ((i:aw)+1))):=⟨H3.out.step,Ext.set1 q r 1 _⟩
  have A:Ext (·=N) (q.setCell ⟨r,1,tM⟩ (Z U ((i:aw)+1))) R:=by rw[<-ue];exact ae (Ext.refl _ _) _
  have AH:aE w.heap.size w q:=by rw[g];exact zs.out.trans (AD.out.mono (by rw[ur.out];omega))
  exact⟨a.1.ext A (by omega) (by have:=vp.out;omega),(bQ.grown AH a).2.trans A (λk J=> .inr (by omega))⟩
 have ye:R.heap[N]?=tG (uc #[Z U 9,ua tR,tS ⟨#[]⟩,tS ⟨#[]⟩,tU tM 0 0,tU tM 0 0,tU tM 0 0,Z U ln,Z U cl] 282 (0,0)):=by
  rw[<-ue];exact bk _ N 0 _ _ _ ((dg _ _ _ N (by show N≠r;omega)).trans AE.out)
 have yi:R.heap[N+1]?=tG (uc #[Z U 0,ua tR,tS ⟨#[]⟩,tS ⟨#[]⟩,tU tM 0 0,tU tM 0 0,tU tM 0 0,Z U 0,Z U 0] 282 (0,0)):=by
  rw[<-ue];exact(dg _ _ _ (N+1) (by show N+1≠N;omega)).trans ((dg _ _ _ (N+1) (by show N+1≠r;omega)).trans AF.out)
 have yk:=zH yd;have AI:=zH ye;have AK:=zH yi;clear ue yd ye yi a0 a1 a2 a3 a4 a5 a6 a7 a8 b0 b1 b2 b3 b4 b5 b6 b7 b8 c0 c1 c3 f1 hr g0 g1 g2 g3 g4 Ax
 go_upto_region 27 with(go_at_call 207;refine(xj.out R yk.out.1).mono ?_;rintro e w5 ⟨rfl,yp⟩;have vr:=zH yp;clear yp)
 go_upto_region 28 with(go_at_call 208;refine(zc.out w5 vr.out.1).mono ?_;rintro e w6 ⟨rfl,vt⟩;have yq:=zH (vr.out.trans vt);have vu:=(vr.out.trans vt).2.heap AI.out (by omega);have AM:=zH vu;obtain⟨⟨a0,a1,a2,a3,a4,a5,a6,a7,a8⟩,⟨b0,b1,b2,b3,b4,b5,b6,b7,b8⟩,AN⟩:=fV vu;clear vt vu)
 obtain⟨W7,ux⟩:=zE (w6.setCell ⟨N,3,tM⟩ (tS x.text));rw[ux];have vc:Ext (·=N) w6 W7:=by rw[<-ux];exact ae (Ext.refl _ _) _
 have up:W7.heap[N]?=tG (uc #[Z U 9,ua tR,tS ⟨#[]⟩,tS x.text,tU tM 0 0,tU tM 0 0,tU tM 0 0,Z U ln,Z U cl] 282 (0,0)):=by
  rw[<-ux];exact bk _ N 3 _ _ _ AM.out
 have E:=vc.heap (yq.out.2.heap AK.out (by omega)) (show¬N+1=N by omega);have vx:=yk.out.trans yq.out;have yr:bQ r lb cap T (i+3) w W7:=⟨vx.1.ext vc (by omega) (by have:=vp.out;omega),vx.2.trans vc (λk J=> .inr (by omega))⟩
 have yv:=zH yr;have AS:=zH up;have AT:=zH E;clear ux vc up E vx yr a0 a1 a2 a3 a4 a5 a6 a7 a8 b0 b1 b2 b3 b4 b5 b6 b7 b8 AN
 go_upto_region 34 with(go_at_call 207;refine(xo.out W7 yv.out.1).mono ?_;rintro e w8 ⟨rfl,yy⟩;have vd:=zH yy;clear yy)
 go_wp2_with (go_at_call 207;refine(xp.out w8 vd.out.1).mono ?_;rintro e w9 ⟨rfl,vf⟩;have AW:=zH (vd.out.trans vf);have up:=(vd.out.trans vf).2.heap AS.out (by omega);have E:=(vd.out.trans vf).2.heap AT.out (by omega);have A0:=zH E;obtain⟨⟨a0,a1,a2,a3,a4,a5,a6,a7,a8⟩,⟨b0,b1,b2,b3,b4,b5,b6,b7,b8⟩,A5⟩:=fV up;obtain⟨⟨p0,p1,p2,p3,p4,p5,p6,p7,p8⟩,⟨q0,q1,q2,q3,q4,q5,q6,q7,q8⟩,A6⟩:=fV E;clear vf up E)
 (try simp only[dk,Exit.then]);refine er (fk (P:=am) rfl _ _ (N+1) 282 _ (0,0) _ rfl (lw A0.out) m9 rfl (by kernel_rfl)) rfl ?_;have hM:=yv.out.trans AW.out;have yW:=lD w9 (N+1) (Z U 9) (ua tR) (tS ⟨#[]⟩) (tS x.text) (tU tM 0 0) (tU tM 0 0) (tU tM 0 0) (Z U ln) (Z U cl);exact⟨⟨9,bM,x.text,tU tM 0 0,ln,cl,[]⟩,rfl,rfl,.inl ⟨rfl,rfl⟩,hM.1.ext yW (by omega) (by have:=vp.out;omega),hM.2.trans yW (λk J=> .inr (by omega))⟩
def kI:bj bm:=[⟨#[105,102]⟩,⟨#[119,104,105,108,101]⟩,⟨#[98,114,101,97,107]⟩,⟨#[99,111,110,116,105,110,117,101]⟩,⟨#[114,101,116,117,114,110]⟩,⟨#[102,114,101,101]⟩,⟨#[112,117,116]⟩]
theorem wu {t:Tok}{s:bm}{l:bj bm}(h:dQ t s=tP)(d:s∈l):mQ t l=tP:=by
 unfold mQ;rw[kh];exact⟨s,d,h⟩
theorem Sm.inn.slice {B:bh}{w:World}{s:Sm}(h:s.inn B w):∃ao n c,s.E= tU ao n c:=by
 rcases h with h|⟨g,cap,d,_⟩
 ·exact⟨_,_,_,h.2⟩
 ·exact⟨_,_,_,d⟩
theorem BX {r lb cap:bh}{T:bj Tok}{i:bh}{k:bh}{t z:Tok}{e:Ex}(d:aw)(w:World)(h:Rd r lb cap T i w)(o:T[i]?=tG t)(E:dQ t rJ=tP)(hl:fO T (i+1) e k)(hz:T[k]?=tG z)(hs:dQ z dV=tP):
  ge am 243 #[tW (tG ⟨r,0,tM⟩),Z U d] w (iZ r lb cap T w ⟨8,bM,⟨#[]⟩,[e]⟩ (k+1)):=by
 obtain⟨N,f⟩:=zE w.heap.size;obtain⟨W1,q⟩:=zE (w.alloc (uc #[Z U 0,ua tR,tS ⟨#[]⟩,tS ⟨#[]⟩,tU tM 0 0,tU tM 0 0,tU tM 0 0,Z U 0,Z U 0] 282));have ue:=iR q f;have vu:W1.heap.size=N+1:=by rw[<-q];simp[f]
 have vx:W1.heap[N]?=tG (uc #[Z U 0,ua tR,tS ⟨#[]⟩,tS ⟨#[]⟩,tU tM 0 0,tU tM 0 0,tU tM 0 0,Z U 0,Z U 0] 282 (0,0)):=by rw[<-q,<-f];exact alloc_at _ _
 have g:=h.grow (by rw[f];exact ue);have up:=zH (bJ W1 g o);have vy:cj (∀W,aE W1.heap.size W1 W->zS 171 #[tW (tG ⟨r,0,tM⟩)] W (ua tR)):=λW u=>bI W (g.grow u);have ur:cj (∀(b:bh) W,aE W1.heap.size W1 W->b<W.heap.size->W.heap[b]?=tG (uc #[tS ⟨#[105,102]⟩,tS ⟨#[119,104,105,108,101]⟩,tS ⟨#[98,114,101,97,107]⟩,tS ⟨#[99,111,110,116,105,110,117,101]⟩,tS ⟨#[114,101,116,117,114,110]⟩,tS ⟨#[102,114,101,101]⟩,tS ⟨#[112,117,116]⟩] 9 (0,0))->zP 260 #[tW (tG ⟨r,0,tM⟩),tU (tG ⟨b,0,tM⟩) 7 7] W (ua (mQ t kI))):=λb W u hb hr=>iI b 7 kI W (g.grow u) o (by decide) hb (ji hr rfl);rw[wu E (show rJ∈kI by decide)] at ur;have yp:cj (∀W,Rd r lb cap T i W->ge am 261 #[tW (tG ⟨r,0,tM⟩),ub #[Z U 0,ua tR,tS ⟨#[]⟩,tS ⟨#[]⟩,tU tM 0 0,tU tM 0 0,tU tM 0 0,Z U t.ln,Z U t.cl],Z U d] W (iZ r lb cap T W ⟨8,bM,⟨#[]⟩,[e]⟩ (k+1))):=λW u=>xL _ _ d W u o E hl hz hs;simp only[Tok.cells] at up;have hst:∀(w:World)(c:eA cA),c.size=5->(dt ⟨w.heap.size,0,tM⟩ [Z U t.kind,tS t.text,Z U t.n,Z U t.ln,Z U t.cl] 0).run am (w.alloc (uc c 263))= .ok () (w.alloc (uc #[Z U t.kind,tS t.text,Z U t.n,Z U t.ln,Z U t.cl] 263)):=λw c hc=>
  cx (P:=am) w 263 c #[Z U t.kind,tS t.text,Z U t.n,Z U t.ln,Z U t.cl] (by show _=tG 5;kernel_rfl) hc (by simp[ct])
 have we:∀(w:World)(c:eA cA),c.size=9->(dt ⟨w.heap.size,0,tM⟩ [Z U 0,ua tR,tS ⟨#[]⟩,tS ⟨#[]⟩,tU tM 0 0,tU tM 0 0,tU tM 0 0,Z U t.ln,Z U t.cl] 0).run am (w.alloc (uc c 282))= .ok () (w.alloc (uc #[Z U 0,ua tR,tS ⟨#[]⟩,tS ⟨#[]⟩,tU tM 0 0,tU tM 0 0,tU tM 0 0,Z U t.ln,Z U t.cl] 282)):=λw c hc=>
  cx (P:=am) w 282 c #[Z U 0,ua tR,tS ⟨#[]⟩,tS ⟨#[]⟩,tU tM 0 0,tU tM 0 0,tU tM 0 0,Z U t.ln,Z U t.cl] (by show _=tG 9;kernel_rfl) hc (by simp[ct])
 have yq:=zH hst;have yr:=zH we;have AS:i<T.length:=(bl.1 o).1;have hT:=h.short;have AT:r<N:=by rw[<-f];exact h.rlt
 have yv:cj (lb<N):=by unfold cj;rw[<-f];exact h.lt
 have yy:=zH q;have wg:=zH ue;have J:=zH vu;have yW:=zH vx;have H1:=zH g;clear h o hst we q ue vu vx g E hl hz hs;go_enter func243,ntmps243
 go_upto_region 2 with(go_at_call 170;rw[yy.out];refine up.out.mono ?_;rintro e w2 ⟨rfl,wj⟩;have zc:=yq.out w2;have wk:=zH wj;clear wj)
 clear zc;obtain⟨G,v⟩:=zE w2.heap.size;obtain⟨K,x⟩:=zE (w2.alloc (uc #[Z U t.kind,tS t.text,Z U t.n,Z U t.ln,Z U t.cl] 263));rw[v,x];have wl:=zD x wk;have uv:K.heap.size=G+1:=by rw[<-x,<-v];simp
 have AW:N+1<=G:=by rw[<-v,<-J.out];exact wk.out.size
 have ux:K.heap[G]?=tG (uc #[Z U t.kind,tS t.text,Z U t.n,Z U t.ln,Z U t.cl] 263 (0,0)):=by rw[<-x,<-v];exact alloc_at _ _
 obtain⟨⟨g0,g1,g2,g3,g4⟩,_,A0⟩:=fU ux;have ws:=yr.out K;have zj:=zH wl;have zp:=zH ux;clear v x wl ux;rw[uv] at ws
 go_upto_region 4 with(fail)
 clear ws;obtain⟨y,j⟩:=zE (K.alloc (uc #[Z U 0,ua tR,tS ⟨#[]⟩,tS ⟨#[]⟩,tU tM 0 0,tU tM 0 0,tU tM 0 0,Z U t.ln,Z U t.cl] 282));rw[j];have A:=zD j zj;have zs:y.heap.size=G+2:=by rw[<-j];simp[uv]
 have xf:y.heap[G+1]?=tG (uc #[Z U 0,ua tR,tS ⟨#[]⟩,tS ⟨#[]⟩,tU tM 0 0,tU tM 0 0,tU tM 0 0,Z U t.ln,Z U t.cl] 282 (0,0)):=by rw[<-j,<-uv];exact alloc_at _ _
 have xj:y.heap[G]?=tG (uc #[Z U t.kind,tS t.text,Z U t.n,Z U t.ln,Z U t.cl] 263 (0,0)):=by rw[<-j];exact(cJ _ _ G (by omega)).trans zp.out
 have xo:=(A.block N (by have:=J.out;omega)).trans yW.out;obtain⟨W5,R⟩:=zE (y.alloc (uc #[tS ⟨#[105,102]⟩,tS ⟨#[119,104,105,108,101]⟩,tS ⟨#[98,114,101,97,107]⟩,tS ⟨#[99,111,110,116,105,110,117,101]⟩,tS ⟨#[114,101,116,117,114,110]⟩,tS ⟨#[102,114,101,101]⟩,tS ⟨#[112,117,116]⟩] 9));have vc:=il R;have vd:=A.trans (vc.mono A.size);have vf:W5.heap[G+2]?=tG (uc #[tS ⟨#[105,102]⟩,tS ⟨#[119,104,105,108,101]⟩,tS ⟨#[98,114,101,97,107]⟩,tS ⟨#[99,111,110,116,105,110,117,101]⟩,tS ⟨#[114,101,116,117,114,110]⟩,tS ⟨#[102,114,101,101]⟩,tS ⟨#[112,117,116]⟩] 9 (0,0)):=by rw[<-R,<-zs];exact alloc_at _ _
 have zv:=zH (vy.out y A);have An:=zH (ur.out (G+2) W5 vd (aa vf) vf);have At:=zH R;have xp:=zH vc;have xt:=zH vd;have Ax:=zH xf;have A1:=zH xj;have AD:=zH xo;clear j A xf xj xo R vc vd vf vy up ur g0 g1 g2 g3 g4
 go_upto_region 7 with(first
  |(go_at_call 171;refine zv.out.mono ?_;rintro e w5 ⟨rfl,rfl⟩)
  |(go_at_call 260;(try rw[At.out]);refine An.out.mono ?_;rintro e w6 ⟨rfl,xF⟩;have xT:=zH xF;clear xF))
 have vh:=xp.out.trans (xT.out.mono xp.out.size);have vm:=xt.out.trans (xT.out.mono xt.out.size);have h6:=H1.out.grow vm;have yb:=(vh.block (G+1) (by omega)).trans Ax.out;have yd:=(vh.block N (by omega)).trans AD.out;obtain⟨⟨a0,a1,a2,a3,a4,a5,a6,a7,a8⟩,_,A2⟩:=fV yb;have AE:=zH (yp.out w6 h6);have ye:=zH vm;have yi:=zH yd;clear vh vm h6 yb yd
 go_wp2_with (go_at_call 261;refine AE.out.mono ?_;rintro e w7 ⟨s,rfl,yk,vp,vq⟩;obtain⟨AF,en,ec,hE⟩:=vp.slice;have HE:=zH hE;have AH:=zH yk;have AI:=zH vp;have AK:=zH vq;have vr:=vq.2.heap yi.out (by omega);have AM:=zH vr;obtain⟨⟨p0,p1,p2,p3,p4,p5,p6,p7,p8⟩,⟨q0,q1,q2,q3,q4,q5,q6,q7,q8⟩,A3⟩:=fV vr;unfold Sm.cells;rw[hE];clear yk vp vq vr hE)
 (try simp only[dk,Exit.then]);refine er (fk (P:=am) rfl _ _ N 282 _ (0,0) _ rfl (lw AM.out) m9 rfl (by kernel_rfl)) rfl ?_;have vt:=lD w7 N (Z U s.kind) (ua s.ty.1) (tS s.ty.2) (tS s.nm) (tU AF en ec) (tU tM 0 0) (tU tM 0 0) (Z U s.ln) (Z U s.cl);have AN:w.heap.size<=w6.heap.size:=(wg.out.trans (ye.out.mono (by rw[J.out];omega))).size;have A4:N<w6.heap.size:=aa yi.out;have hM:bQ r lb cap T (k+1) w w7:=bQ.grown (show aE w.heap.size w w6 by rw[f];exact wg.out.trans (ye.out.mono (by rw[J.out];omega))) AK.out;exact⟨s,by unfold Sm.cells;rw[HE.out],AH.out,(AI.out.ext vt (λk g h2 e=>by omega)).mono AN,hM.1.ext vt (by omega) (by have:=yv.out;omega),hM.2.trans vt (λk E=> .inr (by omega))⟩
theorem zB {r lb cap:bh}{T:bj Tok}{i:bh}{t u x v z:Tok}(d:aw)(w:World)(h:Rd r lb cap T i w)(o:T[i]?=tG t)(R:dQ t Dv=tP)(hu:T[i+1]?=tG u)(vy:dQ u fM=tP)(we:T[i+2]?=tG x)(wg:x.kind=1)(hv:T[i+3]?=tG v)(wj:dQ v oH=tP)(hz:T[i+4]?=tG z)(hs:dQ z dV=tP):
  ge am 243 #[tW (tG ⟨r,0,tM⟩),Z U d] w (iZ r lb cap T w ⟨9,bM,x.text,[]⟩ (i+5)):=by
 obtain⟨N,f⟩:=zE w.heap.size;obtain⟨W1,q⟩:=zE (w.alloc (uc #[Z U 0,ua tR,tS ⟨#[]⟩,tS ⟨#[]⟩,tU tM 0 0,tU tM 0 0,tU tM 0 0,Z U 0,Z U 0] 282));have ur:=iR q f;have wk:W1.heap.size=N+1:=by rw[<-q];simp[f]
 have wl:W1.heap[N]?=tG (uc #[Z U 0,ua tR,tS ⟨#[]⟩,tS ⟨#[]⟩,tU tM 0 0,tU tM 0 0,tU tM 0 0,Z U 0,Z U 0] 282 (0,0)):=by rw[<-q,<-f];exact alloc_at _ _
 have g:=h.grow (by rw[f];exact ur);have uv:=zH (bJ W1 g o);have ws:cj (∀W,aE W1.heap.size W1 W->zS 171 #[tW (tG ⟨r,0,tM⟩)] W (ua tR)):=λW y=>bI W (g.grow y);have ux:cj (∀(b:bh) W,aE W1.heap.size W1 W->b<W.heap.size->W.heap[b]?=tG (uc #[tS ⟨#[105,102]⟩,tS ⟨#[119,104,105,108,101]⟩,tS ⟨#[98,114,101,97,107]⟩,tS ⟨#[99,111,110,116,105,110,117,101]⟩,tS ⟨#[114,101,116,117,114,110]⟩,tS ⟨#[102,114,101,101]⟩,tS ⟨#[112,117,116]⟩] 9 (0,0))->zP 260 #[tW (tG ⟨r,0,tM⟩),tU (tG ⟨b,0,tM⟩) 7 7] W (ua (mQ t kI))):=λb W y hb hr=>iI b 7 kI W (g.grow y) o (by decide) hb (ji hr rfl);rw[wu R (show Dv∈kI by decide)] at ux;have zc:cj (∀W,Rd r lb cap T i W->ge am 261 #[tW (tG ⟨r,0,tM⟩),ub #[Z U 0,ua tR,tS ⟨#[]⟩,tS ⟨#[]⟩,tU tM 0 0,tU tM 0 0,tU tM 0 0,Z U t.ln,Z U t.cl],Z U d] W (iZ r lb cap T W ⟨9,bM,x.text,[]⟩ (i+5))):=λW y=>uM _ _ d W y o R hu vy we wg hv wj hz hs;simp only[Tok.cells] at uv;have hst:∀(w:World)(c:eA cA),c.size=5->(dt ⟨w.heap.size,0,tM⟩ [Z U t.kind,tS t.text,Z U t.n,Z U t.ln,Z U t.cl] 0).run am (w.alloc (uc c 263))= .ok () (w.alloc (uc #[Z U t.kind,tS t.text,Z U t.n,Z U t.ln,Z U t.cl] 263)):=λw c hc=>
  cx (P:=am) w 263 c #[Z U t.kind,tS t.text,Z U t.n,Z U t.ln,Z U t.cl] (by show _=tG 5;kernel_rfl) hc (by simp[ct])
 have xf:∀(w:World)(c:eA cA),c.size=9->(dt ⟨w.heap.size,0,tM⟩ [Z U 0,ua tR,tS ⟨#[]⟩,tS ⟨#[]⟩,tU tM 0 0,tU tM 0 0,tU tM 0 0,Z U t.ln,Z U t.cl] 0).run am (w.alloc (uc c 282))= .ok () (w.alloc (uc #[Z U 0,ua tR,tS ⟨#[]⟩,tS ⟨#[]⟩,tU tM 0 0,tU tM 0 0,tU tM 0 0,Z U t.ln,Z U t.cl] 282)):=λw c hc=>
  cx (P:=am) w 282 c #[Z U 0,ua tR,tS ⟨#[]⟩,tS ⟨#[]⟩,tU tM 0 0,tU tM 0 0,tU tM 0 0,Z U t.ln,Z U t.cl] (by show _=tG 9;kernel_rfl) hc (by simp[ct])
 have zj:=zH hst;have zp:=zH xf;have A3:i<T.length:=(bl.1 o).1;have hT:=h.short;have A4:r<N:=by rw[<-f];exact h.rlt
 have zs:cj (lb<N):=by unfold cj;rw[<-f];exact h.lt
 have zv:=zH q;have xj:=zH ur;have ue:=zH wk;have An:=zH wl;have H1:=zH g;clear h o hst xf q ur wk wl g R hu vy we wg hv wj hz hs;go_enter func243,ntmps243
 go_upto_region 2 with(go_at_call 170;rw[zv.out];refine uv.out.mono ?_;rintro e w2 ⟨rfl,xo⟩;have At:=zj.out w2;have xp:=zH xo;clear xo)
 clear At;obtain⟨G,A⟩:=zE w2.heap.size;obtain⟨W3,E⟩:=zE (w2.alloc (uc #[Z U t.kind,tS t.text,Z U t.n,Z U t.ln,Z U t.cl] 263));rw[A,E];have xt:=zD E xp;have vc:W3.heap.size=G+1:=by rw[<-E,<-A];simp
 have A5:N+1<=G:=by rw[<-A,<-ue.out];exact xp.out.size
 have vd:W3.heap[G]?=tG (uc #[Z U t.kind,tS t.text,Z U t.n,Z U t.ln,Z U t.cl] 263 (0,0)):=by rw[<-E,<-A];exact alloc_at _ _
 obtain⟨⟨g0,g1,g2,g3,g4⟩,_,A6⟩:=fU vd;have xF:=zp.out W3;have Ax:=zH xt;have AD:=zH vd;clear A E xt vd;rw[vc] at xF
 go_upto_region 4 with(fail)
 clear xF;obtain⟨J,j⟩:=zE (W3.alloc (uc #[Z U 0,ua tR,tS ⟨#[]⟩,tS ⟨#[]⟩,tU tM 0 0,tU tM 0 0,tU tM 0 0,Z U t.ln,Z U t.cl] 282));rw[j];have K:=zD j Ax;have AE:J.heap.size=G+2:=by rw[<-j];simp[vc]
 have xT:J.heap[G+1]?=tG (uc #[Z U 0,ua tR,tS ⟨#[]⟩,tS ⟨#[]⟩,tU tM 0 0,tU tM 0 0,tU tM 0 0,Z U t.ln,Z U t.cl] 282 (0,0)):=by rw[<-j,<-vc];exact alloc_at _ _
 have yb:J.heap[G]?=tG (uc #[Z U t.kind,tS t.text,Z U t.n,Z U t.ln,Z U t.cl] 263 (0,0)):=by rw[<-j];exact(cJ _ _ G (by omega)).trans AD.out
 have yd:=(K.block N (by have:=ue.out;omega)).trans An.out;obtain⟨W5,up⟩:=zE (J.alloc (uc #[tS ⟨#[105,102]⟩,tS ⟨#[119,104,105,108,101]⟩,tS ⟨#[98,114,101,97,107]⟩,tS ⟨#[99,111,110,116,105,110,117,101]⟩,tS ⟨#[114,101,116,117,114,110]⟩,tS ⟨#[102,114,101,101]⟩,tS ⟨#[112,117,116]⟩] 9));have vf:=il up;have vh:=K.trans (vf.mono K.size);have vm:W5.heap[G+2]?=tG (uc #[tS ⟨#[105,102]⟩,tS ⟨#[119,104,105,108,101]⟩,tS ⟨#[98,114,101,97,107]⟩,tS ⟨#[99,111,110,116,105,110,117,101]⟩,tS ⟨#[114,101,116,117,114,110]⟩,tS ⟨#[102,114,101,101]⟩,tS ⟨#[112,117,116]⟩] 9 (0,0)):=by rw[<-up,<-AE];exact alloc_at _ _
 have AF:=zH (ws.out J K);have AH:=zH (ux.out (G+2) W5 vh (aa vm) vm);have AI:=zH up;have ye:=zH vf;have yi:=zH vh;have AK:=zH xT;have Bk:=zH yb;have AM:=zH yd;clear j K xT yb yd up vf vh vm ws uv ux g0 g1 g2 g3 g4
 go_upto_region 7 with(first
  |(go_at_call 171;refine AF.out.mono ?_;rintro e w5 ⟨rfl,rfl⟩)
  |(go_at_call 260;(try rw[AI.out]);refine AH.out.mono ?_;rintro e w6 ⟨rfl,yk⟩;have yp:=zH yk;clear yk))
 have vp:=ye.out.trans (yp.out.mono ye.out.size);have vq:=yi.out.trans (yp.out.mono yi.out.size);have h6:=H1.out.grow vq;have yq:=(vp.block (G+1) (by omega)).trans AK.out;have yr:=(vp.block N (by omega)).trans AM.out;obtain⟨⟨a0,a1,a2,a3,a4,a5,a6,a7,a8⟩,_,Bm⟩:=fV yq;have AN:=zH (zc.out w6 h6);have yv:=zH vq;have yy:=zH yr;clear vp vq h6 yq yr
 go_wp2_with (go_at_call 261;refine AN.out.mono ?_;rintro e w7 ⟨s,rfl,yW,vr,vt⟩;obtain⟨AS,en,ec,hE⟩:=vr.slice;have HE:=zH hE;have AT:=zH yW;have AW:=zH vr;have A0:=zH vt;have vu:=vt.2.heap yy.out (by omega);have A1:=zH vu;obtain⟨⟨p0,p1,p2,p3,p4,p5,p6,p7,p8⟩,⟨q0,q1,q2,q3,q4,q5,q6,q7,q8⟩,Bs⟩:=fV vu;unfold Sm.cells;rw[hE];clear yW vr vt vu hE)
 (try simp only[dk,Exit.then]);refine er (fk (P:=am) rfl _ _ N 282 _ (0,0) _ rfl (lw A1.out) m9 rfl (by kernel_rfl)) rfl ?_;have vx:=lD w7 N (Z U s.kind) (ua s.ty.1) (tS s.ty.2) (tS s.nm) (tU AS en ec) (tU tM 0 0) (tU tM 0 0) (Z U s.ln) (Z U s.cl);have A2:w.heap.size<=w6.heap.size:=(xj.out.trans (yv.out.mono (by rw[ue.out];omega))).size;have By:N<w6.heap.size:=aa yy.out;have hM:bQ r lb cap T (i+5) w w7:=bQ.grown (show aE w.heap.size w w6 by rw[f];exact xj.out.trans (yv.out.mono (by rw[ue.out];omega))) A0.out;exact⟨s,by unfold Sm.cells;rw[HE.out],AT.out,(AW.out.ext vx (λk g h2 e=>by omega)).mono A2,hM.1.ext vx (by omega) (by have:=zs.out;omega),hM.2.trans vx (λk R=> .inr (by omega))⟩
theorem zC {r lb cap:bh}{T:bj Tok}{i:bh}{k:bh}{t u x v z:Tok}{e:Ex}(d:aw)(w:World)(h:Rd r lb cap T i w)(ht:T[i]?=tG t)(g:t.kind=1)(hu:T[i+1]?=tG u)(xo:dQ u jY=tP)(AD:u.kind=4)(AE:T[i+2]?=tG x)(AF:x.kind=1)(hv:T[i+3]?=tG v)(AH:dQ v IL=tP)(hl:fO T (i+4) e k)(hz:T[k]?=tG z)(hs:dQ z dV=tP):
  ge am 243 #[tW (tG ⟨r,0,tM⟩),Z U d] w (iZ r lb cap T w ⟨1,(tP,t.text),x.text,[e]⟩ (k+1)):=by
 obtain⟨N,hN⟩:=zE w.heap.size;obtain⟨W1,up⟩:=zE (w.alloc (uc #[Z U 0,ua tR,tS ⟨#[]⟩,tS ⟨#[]⟩,tU tM 0 0,tU tM 0 0,tU tM 0 0,Z U 0,Z U 0] 282));have xp:=iR up hN;have AI:W1.heap.size=N+1:=by rw[<-up];simp[hN]
 have AK:W1.heap[N]?=tG (uc #[Z U 0,ua tR,tS ⟨#[]⟩,tS ⟨#[]⟩,tU tM 0 0,tU tM 0 0,tU tM 0 0,Z U 0,Z U 0] 282 (0,0)):=by rw[<-up,<-hN];exact alloc_at _ _
 have h1:=h.grow (by rw[hN];exact xp);have xt:=zH (bJ W1 h1 ht);have AM:cj (∀W,aE W1.heap.size W1 W->zS 171 #[tW (tG ⟨r,0,tM⟩)] W (ua tR)):=λW f=>bI W (h1.grow f);have xF:cj (∀(b:bh) W,aE W1.heap.size W1 W->b<W.heap.size->W.heap[b]?=tG (uc #[tS ⟨#[105,102]⟩,tS ⟨#[119,104,105,108,101]⟩,tS ⟨#[98,114,101,97,107]⟩,tS ⟨#[99,111,110,116,105,110,117,101]⟩,tS ⟨#[114,101,116,117,114,110]⟩,tS ⟨#[102,114,101,101]⟩,tS ⟨#[112,117,116]⟩] 9 (0,0))->zP 260 #[tW (tG ⟨r,0,tM⟩),tU (tG ⟨b,0,tM⟩) 7 7] W (ua (mQ t kI))):=λb W f hb hr=>iI b 7 kI W (h1.grow f) ht (by decide) hb (ji hr rfl);rw[pW (by omega) (by omega) kI] at xF;have vh:cj (∀W,aE W1.heap.size W1 W->zP 172 #[tW (tG ⟨r,0,tM⟩),tS xE] W (ua (dQ t xE))):=λW f=>bF _ W (h1.grow f) ht;rw[mi g] at vh;unfold xE at vh;have xT:cj (∀W,aE W1.heap.size W1 W->zP 262 #[tW (tG ⟨r,0,tM⟩)] W (ua (u.text==jY))):=λW f=>xG W (h1.grow f) hu AD;rw[show(u.text==jY)=tP from tt.2 (xK xo).1] at xT;have DQ:cj (∀W,Rd r lb cap T i W->ge am 209 #[tW (tG ⟨r,0,tM⟩)] W λe w'=>e= ud (ub #[ua tP,tS t.text])/\bQ r lb cap T (i+2) W w'):=λW f=>wm W f ht g hu xo;have DS:cj (∀W,Rd r lb cap T (i+2) W->ge am 208 #[tW (tG ⟨r,0,tM⟩)] W λe w'=>e= ud (.tuple #[tS x.text,ub #[Z U x.ln,Z U x.cl]])/\bQ r lb cap T (i+3) W w'):=λW f=>eP W f AE AF;have AN:cj (∀W,Rd r lb cap T (i+3) W->ge am 207 #[tW (tG ⟨r,0,tM⟩),tS IL] W λe w'=>e= ud (.tuple #[])/\bQ r lb cap T (i+4) W w'):=λW f=>bi IL W f hv AH;have AS:cj (∀W,Rd r lb cap T k W->ge am 207 #[tW (tG ⟨r,0,tM⟩),tS dV] W λe w'=>e= ud (.tuple #[])/\bQ r lb cap T (k+1) W w'):=λW f=>bi dV W f hz hs;unfold IL at AN;unfold dV at AS;have yb:∀W,Rd r lb cap T (i+4) W->ge am 263 #[tW (tG ⟨r,0,tM⟩),Z U d] W λen w'=>en= ud (ub e.cells)/\bQ r lb cap T k W w':=λW f=>oG d W f hl hz hs;unfold Ex.cells at yb;have D0:=zH yb;clear yb;simp only[Tok.cells,g] at xt;have hst:∀(w:World)(c:eA cA),c.size=5->(dt ⟨w.heap.size,0,tM⟩ [Z U 1,tS t.text,Z U t.n,Z U t.ln,Z U t.cl] 0).run am (w.alloc (uc c 263))= .ok () (w.alloc (uc #[Z U 1,tS t.text,Z U t.n,Z U t.ln,Z U t.cl] 263)):=λw c hc=>
  cx (P:=am) w 263 c #[Z U 1,tS t.text,Z U t.n,Z U t.ln,Z U t.cl] (by show _=tG 5;kernel_rfl) hc (by simp[ct])
 have AT:∀(w:World)(c:eA cA),c.size=9->(dt ⟨w.heap.size,0,tM⟩ [Z U 0,ua tR,tS ⟨#[]⟩,tS ⟨#[]⟩,tU tM 0 0,tU tM 0 0,tU tM 0 0,Z U t.ln,Z U t.cl] 0).run am (w.alloc (uc c 282))= .ok () (w.alloc (uc #[Z U 0,ua tR,tS ⟨#[]⟩,tS ⟨#[]⟩,tU tM 0 0,tU tM 0 0,tU tM 0 0,Z U t.ln,Z U t.cl] 282)):=λw c hc=>
  cx (P:=am) w 282 c #[Z U 0,ua tR,tS ⟨#[]⟩,tS ⟨#[]⟩,tU tM 0 0,tU tM 0 0,tU tM 0 0,Z U t.ln,Z U t.cl] (by show _=tG 9;kernel_rfl) hc (by simp[ct])
 have D1:=zH hst;have D2:=zH AT;have Hs:i<T.length:=(bl.1 ht).1;have hT:=h.short;have Hv:r<N:=by rw[<-hN];exact h.rlt
 have ur:cj (lb<N):=by unfold cj;rw[<-hN];exact h.lt
 have D3:=zH up;have D4:=zH xp;have yd:=zH AI;have Ek:=zH AK;have H1:=zH h1;clear h ht hst AT up xp AI AK h1 g hu xo AD AE AF hv AH hl hz hs;go_enter func243,ntmps243
 go_upto_region 2 with(go_at_call 170;rw[D3.out];refine xt.out.mono ?_;rintro e w2 ⟨rfl,AW⟩;have EV:=D1.out w2;have A0:=zH AW;clear AW)
 clear EV;obtain⟨G,hG⟩:=zE w2.heap.size;obtain⟨W3,uv⟩:=zE (w2.alloc (uc #[Z U 1,tS t.text,Z U t.n,Z U t.ln,Z U t.cl] 263));rw[hG,uv];have A1:=zD uv A0;have ye:W3.heap.size=G+1:=by rw[<-uv,<-hG];simp
 have Hx:N+1<=G:=by rw[<-hG,<-yd.out];exact A0.out.size
 have yi:W3.heap[G]?=tG (uc #[Z U 1,tS t.text,Z U t.n,Z U t.ln,Z U t.cl] 263 (0,0)):=by rw[<-uv,<-hG];exact alloc_at _ _
 obtain⟨⟨g0,g1,g2,g3,g4⟩,_,HU⟩:=fU yi;have A2:=D2.out W3;have E0:=zH A1;have E2:=zH yi;clear hG uv A1 yi;rw[ye] at A2
 go_upto_region 4 with(fail)
 clear A2;obtain⟨W4,ue⟩:=zE (W3.alloc (uc #[Z U 0,ua tR,tS ⟨#[]⟩,tS ⟨#[]⟩,tU tM 0 0,tU tM 0 0,tU tM 0 0,Z U t.ln,Z U t.cl] 282));rw[ue];have ux:=zD ue E0;have E3:W4.heap.size=G+2:=by rw[<-ue];simp[ye]
 have A3:W4.heap[G+1]?=tG (uc #[Z U 0,ua tR,tS ⟨#[]⟩,tS ⟨#[]⟩,tU tM 0 0,tU tM 0 0,tU tM 0 0,Z U t.ln,Z U t.cl] 282 (0,0)):=by rw[<-ue,<-ye];exact alloc_at _ _
 have A4:W4.heap[G]?=tG (uc #[Z U 1,tS t.text,Z U t.n,Z U t.ln,Z U t.cl] 263 (0,0)):=by rw[<-ue];exact(cJ _ _ G (by omega)).trans E2.out
 have A5:=(ux.block N (by have:=yd.out;omega)).trans Ek.out;obtain⟨W5,vm⟩:=zE (W4.alloc (uc #[tS ⟨#[105,102]⟩,tS ⟨#[119,104,105,108,101]⟩,tS ⟨#[98,114,101,97,107]⟩,tS ⟨#[99,111,110,116,105,110,117,101]⟩,tS ⟨#[114,101,116,117,114,110]⟩,tS ⟨#[102,114,101,101]⟩,tS ⟨#[112,117,116]⟩] 9));have yk:=il vm;have yp:=ux.trans (yk.mono ux.size);have yq:W5.heap[G+2]?=tG (uc #[tS ⟨#[105,102]⟩,tS ⟨#[119,104,105,108,101]⟩,tS ⟨#[98,114,101,97,107]⟩,tS ⟨#[99,111,110,116,105,110,117,101]⟩,tS ⟨#[114,101,116,117,114,110]⟩,tS ⟨#[102,114,101,101]⟩,tS ⟨#[112,117,116]⟩] 9 (0,0)):=by rw[<-vm,<-E3];exact alloc_at _ _
 have E4:=zH (AM.out W4 ux);have E6:=zH (xF.out (G+2) W5 yp (aa yq) yq);have E7:=zH vm;have A6:=zH yk;have Bk:=zH yp;have Fc:=zH A3;have Fi:=zH A4;have Fk:=zH A5;clear ue ux A3 A4 A5 vm yk yp yq AM xt xF g0 g1 g2 g3 g4
 go_upto_region 8 with(first
  |(go_at_call 171;refine E4.out.mono ?_;rintro e w5 ⟨rfl,rfl⟩)
  |(go_at_call 260;(try rw[E7.out]);refine E6.out.mono ?_;rintro e w6 ⟨rfl,Bm⟩;have Bs:=zH Bm;clear Bm))
 have vp:=A6.out.trans (Bs.out.mono A6.out.size);have vc:=Bk.out.trans (Bs.out.mono Bk.out.size);have yr:=(vp.block (G+1) (by omega)).trans Fc.out;have By:=(vp.block G (by omega)).trans Fi.out;have BE:=(vp.block N (by omega)).trans Fk.out;have Fl:=zH (vh.out w6 vc);have Fm:=zH (λW (hb:aE w6.heap.size w6 W)=>xT.out W (vc.trans (hb.mono vc.size)));have BT:=zH vc;have Fo:=zH yr;have Fr:=zH By;have Ft:=zH BE;have If:G+1<w6.heap.size:=aa yr;clear vp vc yr By BE xT vh
 go_upto_region 9 with(first
  |(go_at_call 172;refine Fl.out.mono ?_;rintro e w7 ⟨rfl,yv⟩;have yy:=zH yv;obtain⟨⟨g0,g1,g2,g3,g4⟩,_,FA⟩:=fU ((yv.block G (by omega)).trans Fr.out);clear yv)
  |(go_at_call 262;refine(Fm.out w7 yy.out).mono ?_;rintro e w8 ⟨rfl,BY⟩;have yW:=zH (yy.out.trans (BY.mono yy.out.size));clear BY))
 have zc:=BT.out.trans (yW.out.mono BT.out.size);have h8:=H1.out.grow zc;have zj:=(yW.out.block (G+1) (by omega)).trans Fo.out;have B5:=(yW.out.block N (by omega)).trans Ft.out;obtain⟨⟨j,o,q,y,A,E,J,K,R⟩,⟨b0,b1,b2,b3,b4,b5,b6,b7,b8⟩,FF⟩:=fV zj;have H8:=zH h8;have FG:=zH zc;have F0:=zH zj;have F1:=zH B5;clear zc h8 zj B5 g0 g1 g2 g3 g4 FA
 go_upto_region 10 with(fail)
 obtain⟨W9,vq⟩:=zE (w8.setCell ⟨G+1,0,tM⟩ (Z U 1));rw[vq];have vr:Ext (·=G+1) w8 W9:=by rw[<-vq];exact ae (Ext.refl _ _) _
 have h9:=H8.out.ext vr (by omega) (by have:=ur.out;omega);have B6:bQ r lb cap T i w W9:=⟨h9,((Ext.of_below_size (M:=(·=r)) (show aE w.heap.size w w8 by rw[hN];exact D4.out.trans (FG.out.mono (by rw[yd.out];omega))))).trans vr (λk g=> .inr (by omega))⟩
 have B7:W9.heap[G+1]?=tG (uc #[Z U 1,ua tR,tS ⟨#[]⟩,tS ⟨#[]⟩,tU tM 0 0,tU tM 0 0,tU tM 0 0,Z U t.ln,Z U t.cl] 282 (0,0)):=by rw[<-vq];exact bk _ (G+1) 0 _ _ _ F0.out
 have B8:=vr.heap F1.out (by omega);have B9:=zH B6;have Ge:=zH B7;have Gk:=zH B8;clear vq vr h9 B6 B7 B8 j o q y A E J K R b0 b1 b2 b3 b4 b5 b6 b7 b8 FF
 go_upto_region 11 with(go_at_call 209;refine(DQ.out W9 B9.out.1).mono ?_;rintro e Cd ⟨rfl,vt⟩;have Cl:=zH (B9.out.trans vt);have zp:=vt.2.heap Ge.out (by omega);have Cp:=vt.2.heap Gk.out (by omega);have GB:=zH zp;have GC:=zH Cp;obtain⟨⟨j,o,q,y,A,E,J,K,R⟩,⟨b0,b1,b2,b3,b4,b5,b6,b7,b8⟩,GE⟩:=fV zp;clear vt zp Cp)
 obtain⟨vu,vx⟩:=zE ((Cd.setCell ⟨G+1,1,tM⟩ (ua tP)).setCell ⟨G+1,2,tM⟩ (tS t.text));rw[vx];have vy:Ext (·=G+1) Cd vu:=by rw[<-vx];exact ae (ae (Ext.refl _ _) _) _
 have CA:bQ r lb cap T (i+2) w vu:=⟨Cl.out.1.ext vy (by omega) (by have:=ur.out;omega),Cl.out.2.trans vy (λk g=> .inr (by omega))⟩
 have CC:vu.heap[G+1]?=tG (uc #[Z U 1,ua tP,tS t.text,tS ⟨#[]⟩,tU tM 0 0,tU tM 0 0,tU tM 0 0,Z U t.ln,Z U t.cl] 282 (0,0)):=by rw[<-vx];exact bk _ (G+1) 2 _ _ _ (bk _ (G+1) 1 _ _ _ GB.out)
 have CD:=vy.heap GC.out (by omega);have CH:=zH CA;have GF:=zH CC;have GO:=zH CD;clear vx vy CA CC CD j o q y A E J K R b0 b1 b2 b3 b4 b5 b6 b7 b8 GE
 go_upto_region 12 with(go_at_call 208;refine(DS.out vu CH.out.1).mono ?_;rintro e CM ⟨rfl,we⟩;have CN:=zH (CH.out.trans we);have zs:=we.2.heap GF.out (by omega);have CT:=we.2.heap GO.out (by omega);have GP:=zH zs;have GS:=zH CT;obtain⟨⟨j,o,q,y,A,E,J,K,R⟩,⟨b0,b1,b2,b3,b4,b5,b6,b7,b8⟩,GT⟩:=fV zs;clear we zs CT)
 obtain⟨wg,wj⟩:=zE (CM.setCell ⟨G+1,3,tM⟩ (tS x.text));rw[wj];have wk:Ext (·=G+1) CM wg:=by rw[<-wj];exact ae (Ext.refl _ _) _
 have C4:bQ r lb cap T (i+3) w wg:=⟨CN.out.1.ext wk (by omega) (by have:=ur.out;omega),CN.out.2.trans wk (λk g=> .inr (by omega))⟩
 have C5:wg.heap[G+1]?=tG (uc #[Z U 1,ua tP,tS t.text,tS x.text,tU tM 0 0,tU tM 0 0,tU tM 0 0,Z U t.ln,Z U t.cl] 282 (0,0)):=by rw[<-wj];exact bk _ (G+1) 3 _ _ _ GP.out
 have C6:=wk.heap GS.out (by omega);have C7:=zH C4;have GW:=zH C5;have G4:=zH C6;clear wj wk C4 C5 C6 j o q y A E J K R b0 b1 b2 b3 b4 b5 b6 b7 b8 GT
 go_upto_region 13 with(go_at_call 207;refine(AN.out wg C7.out.1).mono ?_;rintro e Hb ⟨rfl,zv⟩;have Dd:=zH (C7.out.trans zv);have Dg:=zH zv.2;clear zv)
 go_upto_region 16 with(go_at_call 263;refine(D0.out Hb Dd.out.1).mono ?_;rintro e wl ⟨rfl,ws⟩;have Do:=zH (Dd.out.trans ws);have An:=ws.2.heap (Dg.out.heap GW.out (by omega)) (by omega);have Ds:=ws.2.heap (Dg.out.heap G4.out (by omega)) (by omega);have Hc:=zH An;have Hh:=zH Ds;obtain⟨⟨j,o,q,y,A,E,J,K,R⟩,⟨b0,b1,b2,b3,b4,b5,b6,b7,b8⟩,DA⟩:=fV An;clear ws An Ds)
 obtain⟨Q,hQ⟩:=zE wl.heap.size;rw[hQ];obtain⟨vd,vf⟩:=zE ((wl.setCell ⟨G+1,4,tM⟩ (tU (tG ⟨Q,0,tM⟩) 1 1)).alloc (uc #[Z U e.kind,Z U e.n,tS e.nm,tS ⟨#[]⟩,tU tM 0 0,Z U e.ln,Z U e.cl] 313));rw[vf];have xf:Ext (·=G+1) wl vd:=by rw[<-vf];exact(ae (Ext.refl _ _) _).alloc _
 have In:G+1<Q:=by rw[<-hQ];exact DA
 have DB:vd.heap[Q]?=tG (uc #[Z U e.kind,Z U e.n,tS e.nm,tS ⟨#[]⟩,tU tM 0 0,Z U e.ln,Z U e.cl] 313 (0,0)):=by
  have:=alloc_at (wl.setCell ⟨G+1,4,tM⟩ (tU (tG ⟨Q,0,tM⟩) 1 1)) (uc #[Z U e.kind,Z U e.n,tS e.nm,tS ⟨#[]⟩,tU tM 0 0,Z U e.ln,Z U e.cl] 313);rw[World.size_setCell,hQ,vf] at this;exact this
 have DE:vd.heap[G+1]?=tG (uc #[Z U 1,ua tP,tS t.text,tS x.text,tU (tG ⟨Q,0,tM⟩) 1 1,tU tM 0 0,tU tM 0 0,Z U t.ln,Z U t.cl] 282 (0,0)):=by
  rw[<-vf];exact(cJ _ _ (G+1) (by rw[World.size_setCell];omega)).trans (bk _ (G+1) 4 _ _ _ Hc.out)
 have DG:=xf.heap Hh.out (by omega);have DH:bQ r lb cap T k w vd:=⟨Do.out.1.ext xf (by omega) (by have:=ur.out;omega),Do.out.2.trans xf (λk g=> .inr (by omega))⟩
 have DM:=zH DH;have Hi:=zH DB;have Hj:=zH DE;have Hk:=zH DG;clear hQ vf xf DB DE DG DH j o q y A E J K R b0 b1 b2 b3 b4 b5 b6 b7 b8 DA
 go_wp2_with (go_at_call 207;refine(AS.out vd DM.out.1).mono ?_;rintro e Hn ⟨rfl,xj⟩;have DO:=zH xj;have DP:=xj.2.heap Hj.out (by omega);have At:=xj.2.heap Hk.out (by omega);have Hp:=zH At;obtain⟨⟨j,o,q,y,A,E,J,K,R⟩,⟨b0,b1,b2,b3,b4,b5,b6,b7,b8⟩,Is⟩:=fV DP;obtain⟨⟨p0,p1,p2,p3,p4,p5,p6,p7,p8⟩,⟨q0,q1,q2,q3,q4,q5,q6,q7,q8⟩,It⟩:=fV At;clear xj DP At)
 (try simp only[dk,Exit.then]);refine er (fk (P:=am) rfl _ _ N 282 _ (0,0) _ rfl (lw Hp.out) m9 rfl (by kernel_rfl)) rfl ?_;have hM:=DM.out.trans DO.out;have Ax:=lD Hn N (Z U 1) (ua tP) (tS t.text) (tS x.text) (tU (tG ⟨Q,0,tM⟩) 1 1) (tU tM 0 0) (tU tM 0 0) (Z U t.ln) (Z U t.cl);refine⟨⟨1,(tP,t.text),x.text,tU (tG ⟨Q,0,tM⟩) 1 1,t.ln,t.cl,[e]⟩,rfl,rfl,.inr ⟨Q,1,rfl,by omega, ?_⟩,hM.1.ext Ax (by omega) (by have:=ur.out;omega),hM.2.trans Ax (λk g=> .inr (by omega))⟩;exact Ax.heap (DO.out.2.heap Hi.out (by omega)) (by omega)
end Go.Proofs.YtjomgckjhcfbgaaGreat
