/- Walks. -/
import Derived.Test.YtjomgckjhcfbgaaGreatP1
set_option maxRecDepth 100000
set_option maxHeartbeats 64000000
set_option linter.all false
namespace Go.Proofs.YtjomgckjhcfbgaaGreat
open Go.RowKit
open Go.Proofs.Tryz renaming prog→am,underlying313→hZ,underlying282→me
open Go.RowKit.Below renaming refl→aq,heap_alloc→cE,heap_setCell→cT
open _root_ renaming Int→aw,Nat→bj,ByteArray→bl,List→bp,beq_eq_false_iff_ne→cN,Array→dl,beq_iff_eq→sR
open Go.RowKit renaming Below→aE,Hid→cg
open Go renaming heap_setCell_same→bk,cell_of_row→bt,run_storeCells_new→cr,Value→cw,storeCells→dd,bodyPost_ret→dk,results_cell_row→er,Calls→fj,TypeId→fX
open _root_.List renaming getElem?_eq_some_iff→bo,any_eq_true→js,any_eq_false→j8
open _root_.Nat renaming le_refl→cd,le_trans→eN
open Go.Value renaming oneCell'→cn,string→eM,string→tm,slice→tn,pointer→tr,bool→tt,agg→tv,int→Z
open Go.Exit renaming inBlock→cQ
open _root_.Bool renaming and_eq_true→ej,or_eq_true→ip,true→ti,false→tj
open Go.ByteArray renaming toList_eq→oA
open _root_.Option renaming some→tf,none→th
open Go.Obj renaming cells→tA
open Go.Ending renaming returned→tB
open Go.IntKind renaming i64→U
open Tryz
def eQ:bl:=⟨#[40]⟩
def DW:bl:=⟨#[110,117,108,108]⟩
def DX:bl:=⟨#[110,101,119]⟩
theorem uf {r lb cap:bj}{T:bp Tok}{i:bj}{t:Tok}(d:aw)(w:World)(h:Rd r lb cap T i w)(J:T[i]?=tf t)(o:t.kind=3):
  fj am 278 #[tr (tf ⟨r,0,th⟩),Z U d] w λe w'=>e= tB (tv (Ex.cells ⟨1,t.n,⟨#[]⟩,t.ln,t.cl⟩))/\bL r lb cap T (i+1) w w':=by
 obtain⟨N,g⟩:=zE w.heap.size;obtain⟨W1,q⟩:=zE (w.alloc (tA #[Z U 0,Z U 0,tm ⟨#[]⟩,tm ⟨#[]⟩,tn th 0 0,Z U 0,Z U 0] 313));have R:=ik q g;have ua:W1.heap.size=N+1:=by rw[<-q];simp[g]
 have ub:W1.heap[N]?=tf (tA #[Z U 0,Z U 0,tm ⟨#[]⟩,tm ⟨#[]⟩,tn th 0 0,Z U 0,Z U 0] 313 (0,0)):=by rw[<-q,<-g];exact alloc_at _ _
 have u:=h.grow (by rw[g];exact R);have tD:=zH (bE W1 u J);have uc:=zH λW v=>bB W (u.grow v);have tE:∀W,Rd r lb cap T (i+1) W->fj am 273 #[tr (tf ⟨r,0,th⟩),tv (Ex.cells ⟨1,t.n,⟨#[]⟩,t.ln,t.cl⟩)] W λen w'=>en= tB (tv (Ex.cells ⟨1,t.n,⟨#[]⟩,t.ln,t.cl⟩))/\aE W.heap.size W w':=λW v=>jE _ W v;have xp:=zH λs W v=>bi s W (u.grow v) J;simp only[Tok.cells,o] at tD;unfold Ex.cells at tE;have vq:=zH tE;have hst:∀(w:World)(c:dl cw),c.size=5->(dd ⟨w.heap.size,0,th⟩ [Z U t.kind,tm t.text,Z U t.n,Z U t.ln,Z U t.cl] 0).run am (w.alloc (tA c 263))= .ok () (w.alloc (tA #[Z U t.kind,tm t.text,Z U t.n,Z U t.ln,Z U t.cl] 263)):=λw c hc=>
  cr (P:=am) w 263 c #[Z U t.kind,tm t.text,Z U t.n,Z U t.ln,Z U t.cl] (by show _=tf 5;kernel_rfl) hc (by simp[cn])
 have ud:∀(w:World)(c:dl cw),c.size=7->(dd ⟨w.heap.size,0,th⟩ [Z U 0,Z U 0,tm ⟨#[]⟩,tm ⟨#[]⟩,tn th 0 0,Z U t.ln,Z U t.cl] 0).run am (w.alloc (tA c 313))= .ok () (w.alloc (tA #[Z U 0,Z U 0,tm ⟨#[]⟩,tm ⟨#[]⟩,tn th 0 0,Z U t.ln,Z U t.cl] 313)):=λw c hc=>
  cr (P:=am) w 313 c #[Z U 0,Z U 0,tm ⟨#[]⟩,tm ⟨#[]⟩,tn th 0 0,Z U t.ln,Z U t.cl] (by show _=tf 7;kernel_rfl) hc (by simp[cn])
 rw[o] at hst;have vr:=zH hst;have vt:=zH ud;have xr:i<T.length:=(bo.1 J).1;have hT:=h.short;have xt:r<N:=by rw[<-g];exact h.rlt
 have ue:cg (lb<N):=by unfold cg;rw[<-g];exact h.lt
 have vu:=zH q;have vx:=zH R;have tG:=zH ua;have vy:=zH ub;have H1:=zH u;clear h J tE hst ud q R ua ub u o;go_enter func278,ntmps278
 go_upto_region 2 with(go_at_call 170;rw[vu.out];refine tD.out.mono ?_;rintro e w2 ⟨rfl,up⟩;have we:=vr.out w2;have ur:=zH up;clear up)
 clear we;obtain⟨G,x⟩:=zE w2.heap.size;obtain⟨K,y⟩:=zE (w2.alloc (tA #[Z U 3,tm t.text,Z U t.n,Z U t.ln,Z U t.cl] 263));rw[x,y];have uv:=zD y ur;have tM:K.heap.size=G+1:=by rw[<-y,<-x];simp
 have xF:N+1<=G:=by rw[<-x,<-tG.out];exact ur.out.size
 have tP:K.heap[G]?=tf (tA #[Z U 3,tm t.text,Z U t.n,Z U t.ln,Z U t.cl] 263 (0,0)):=by rw[<-y,<-x];exact alloc_at _ _
 obtain⟨⟨g0,g1,g2,g3,g4⟩,_,xT⟩:=eZ tP;have ux:=vt.out K;have wg:=zH uv;have wj:=zH tP;clear x y uv tP;rw[tM] at ux
 go_upto_region 4 with(fail)
 clear ux;obtain⟨f,j⟩:=zE (K.alloc (tA #[Z U 0,Z U 0,tm ⟨#[]⟩,tm ⟨#[]⟩,tn th 0 0,Z U t.ln,Z U t.cl] 313));rw[j];have z:=zD j wg;have ya:f.heap.size=G+2:=by rw[<-j];simp[tM]
 have tR:f.heap[G+1]?=tf (tA #[Z U 0,Z U 0,tm ⟨#[]⟩,tm ⟨#[]⟩,tn th 0 0,Z U t.ln,Z U t.cl] 313 (0,0)):=by rw[<-j,<-tM];exact alloc_at _ _
 have tS:f.heap[G]?=tf (tA #[Z U 3,tm t.text,Z U t.n,Z U t.ln,Z U t.cl] 263 (0,0)):=by rw[<-j];exact(cE _ _ G (by omega)).trans wj.out
 have vc:=(z.block N (by have:=tG.out;omega)).trans vy.out;have h4:=H1.out.grow z;have wk:=zH (uc.out f z);have wl:=zH z;have ws:=zH tR;have yb:=zH tS;have xf:=zH vc;have H4:=zH h4;obtain⟨c0,c1,c3,f1,hr⟩:=h4.cells;obtain⟨⟨g0,g1,g2,g3,g4⟩,_,yd⟩:=eZ tS;obtain⟨⟨e0,e1,e2,e3,e4,e5,e6⟩,⟨q0,q1,q2,q3,q4,q5,q6⟩,ye⟩:=ed tR;clear j z tR tS vc h4 uc tD
 go_upto_region 35 with(go_at_call 171;refine wk.out.mono ?_;rintro e w2 ⟨rfl,rfl⟩)
 obtain⟨A,E⟩:=zE (((f.setCell ⟨r,1,th⟩ (Z U ((i:aw)+1))).setCell ⟨G+1,0,th⟩ (Z U 1)).setCell ⟨G+1,1,th⟩ (Z U t.n));rw[E];have vd:bL r lb cap T (i+1) w A:=by
  have a:bL r lb cap T (i+1) f (f.setCell ⟨r,1,th⟩ (Z U ((i:aw)+1))):=⟨H4.out.step,Ext.set1 f r 1 _⟩
  have hx:Ext (·=G+1) (f.setCell ⟨r,1,th⟩ (Z U ((i:aw)+1))) A:=by rw[<-E];exact aa (aa (Ext.refl _ _) _) _
  have xj:aE w.heap.size w f:=by rw[g];exact vx.out.trans (wl.out.mono (by rw[tG.out];omega))
  exact⟨a.1.ext hx (by omega) (by have:=ue.out;omega),(bL.grown xj a).2.trans hx (λk o=> .inr (by omega))⟩
 have vf:A.heap[G+1]?=tf (tA #[Z U 1,Z U t.n,tm ⟨#[]⟩,tm ⟨#[]⟩,tn th 0 0,Z U t.ln,Z U t.cl] 313 (0,0)):=by
  rw[<-E];exact bk _ (G+1) 1 _ _ _ (bk _ (G+1) 0 _ _ _ ((cT _ _ _ (G+1) (by show G+1≠r;omega)).trans ws.out))
 have vh:A.heap[N]?=tf (tA #[Z U 0,Z U 0,tm ⟨#[]⟩,tm ⟨#[]⟩,tn th 0 0,Z U 0,Z U 0] 313 (0,0)):=by
  rw[<-E];exact(cT _ _ _ N (by show N≠G+1;omega)).trans ((cT _ _ _ N (by show N≠G+1;omega)).trans ((cT _ _ _ N (by show N≠r;omega)).trans xf.out))
 obtain⟨⟨e0,e1,e2,e3,e4,e5,e6⟩,⟨q0,q1,q2,q3,q4,q5,q6⟩,yi⟩:=ed vf;have vm:=zH vd;have vp:=zH vh;clear vd vf vh;clear E c0 c1 c3 f1 hr g0 g1 g2 g3 g4
 go_wp2_with (go_at_call 273;refine(vq.out A vm.out.1).mono ?_;rintro e w6 ⟨rfl,tU⟩;have xl:=zH tU;have tW:=(tU.block N (ae vp.out)).trans vp.out;have xo:=zH tW;obtain⟨⟨p0,p1,p2,p3,p4,p5,p6⟩,⟨o0,o1,o2,o3,o4,o5,o6⟩,yk⟩:=ed tW;clear tU tW)
 (try simp only[cQ,Exit.then]);refine dk (er (P:=am) rfl _ _ N 313 _ (0,0) _ rfl (fM xo.out) hZ rfl (by kernel_rfl)) rfl ?_;have hM:bL r lb cap T (i+1) w w6:=vm.out.grow xl.out;exact⟨rfl,hM.1.ext (bV _ _ _ _ _ _ _ _ _) (by omega) (by have:=ue.out;omega),hM.2.trans (bV _ _ _ _ _ _ _ _ _) (λk o=> .inr (by omega))⟩
theorem ug {r lb cap:bj}{T:bp Tok}{i:bj}{t u:Tok}(d:aw)(w:World)(h:Rd r lb cap T i w)(K:T[i]?=tf t)(q:t.kind=1)(hu:T[i+1]?=tf u)(hp:dD u eQ=tj):
  fj am 278 #[tr (tf ⟨r,0,th⟩),Z U d] w λe w'=>e= tB (tv (Ex.cells ⟨2,0,t.text,t.ln,t.cl⟩))/\bL r lb cap T (i+1) w w':=by
 obtain⟨N,g⟩:=zE w.heap.size;obtain⟨W1,v⟩:=zE (w.alloc (tA #[Z U 0,Z U 0,tm ⟨#[]⟩,tm ⟨#[]⟩,tn th 0 0,Z U 0,Z U 0] 313));have tD:=ik v g;have ud:W1.heap.size=N+1:=by rw[<-v];simp[g]
 have ue:W1.heap[N]?=tf (tA #[Z U 0,Z U 0,tm ⟨#[]⟩,tm ⟨#[]⟩,tn th 0 0,Z U 0,Z U 0] 313 (0,0)):=by rw[<-v,<-g];exact alloc_at _ _
 have x:=h.grow (by rw[g];exact tD);have tE:=zH (bE W1 x K);have up:=zH λW j=>bB W (x.grow j);have tG:∀W,Rd r lb cap T (i+1) W->fj am 273 #[tr (tf ⟨r,0,th⟩),tv (Ex.cells ⟨2,0,t.text,t.ln,t.cl⟩)] W λen w'=>en= tB (tv (Ex.cells ⟨2,0,t.text,t.ln,t.cl⟩))/\aE W.heap.size W w':=λW j=>jE _ W j;have yp:=zH λs W j=>bi s W (x.grow j) K;have tM:cg (∀W,Rd r lb cap T (i+1) W->zP 172 #[tr (tf ⟨r,0,th⟩),tm eQ] W (tt (dD u eQ))):=λW j=>bi _ W j hu;rw[hp] at tM;unfold eQ at tM;simp only[Tok.cells,q] at tE;unfold Ex.cells at tG;have wl:=zH tG;have hst:∀(w:World)(c:dl cw),c.size=5->(dd ⟨w.heap.size,0,th⟩ [Z U t.kind,tm t.text,Z U t.n,Z U t.ln,Z U t.cl] 0).run am (w.alloc (tA c 263))= .ok () (w.alloc (tA #[Z U t.kind,tm t.text,Z U t.n,Z U t.ln,Z U t.cl] 263)):=λw c hc=>
  cr (P:=am) w 263 c #[Z U t.kind,tm t.text,Z U t.n,Z U t.ln,Z U t.cl] (by show _=tf 5;kernel_rfl) hc (by simp[cn])
 have ur:∀(w:World)(c:dl cw),c.size=7->(dd ⟨w.heap.size,0,th⟩ [Z U 0,Z U 0,tm ⟨#[]⟩,tm ⟨#[]⟩,tn th 0 0,Z U t.ln,Z U t.cl] 0).run am (w.alloc (tA c 313))= .ok () (w.alloc (tA #[Z U 0,Z U 0,tm ⟨#[]⟩,tm ⟨#[]⟩,tn th 0 0,Z U t.ln,Z U t.cl] 313)):=λw c hc=>
  cr (P:=am) w 313 c #[Z U 0,Z U 0,tm ⟨#[]⟩,tm ⟨#[]⟩,tn th 0 0,Z U t.ln,Z U t.cl] (by show _=tf 7;kernel_rfl) hc (by simp[cn])
 rw[q] at hst;have ws:=zH hst;have xf:=zH ur;have yq:i<T.length:=(bo.1 K).1;have hT:=h.short;have yr:r<N:=by rw[<-g];exact h.rlt
 have uv:cg (lb<N):=by unfold cg;rw[<-g];exact h.lt
 have xj:=zH v;have xl:=zH tD;have tP:=zH ud;have xo:=zH ue;have H1:=zH x;clear h K tG hst ur v tD ud ue x q hu hp;go_enter func278,ntmps278
 go_upto_region 2 with(go_at_call 170;rw[xj.out];refine tE.out.mono ?_;rintro e w2 ⟨rfl,ux⟩;have xp:=ws.out w2;have vc:=zH ux;clear ux)
 clear xp;obtain⟨G,y⟩:=zE w2.heap.size;obtain⟨R,z⟩:=zE (w2.alloc (tA #[Z U 1,tm t.text,Z U t.n,Z U t.ln,Z U t.cl] 263));rw[y,z];have vd:=zD z vc;have tR:R.heap.size=G+1:=by rw[<-z,<-y];simp
 have yv:N+1<=G:=by rw[<-y,<-tP.out];exact vc.out.size
 have tS:R.heap[G]?=tf (tA #[Z U 1,tm t.text,Z U t.n,Z U t.ln,Z U t.cl] 263 (0,0)):=by rw[<-z,<-y];exact alloc_at _ _
 obtain⟨⟨g0,g1,g2,g3,g4⟩,_,yy⟩:=eZ tS;have vf:=xf.out R;have xr:=zH vd;have xt:=zH tS;clear y z vd tS;rw[tR] at vf
 go_upto_region 4 with(fail)
 clear vf;obtain⟨f,o⟩:=zE (R.alloc (tA #[Z U 0,Z U 0,tm ⟨#[]⟩,tm ⟨#[]⟩,tn th 0 0,Z U t.ln,Z U t.cl] 313));rw[o];have A:=zD o xr;have yW:f.heap.size=G+2:=by rw[<-o];simp[tR]
 have tU:f.heap[G+1]?=tf (tA #[Z U 0,Z U 0,tm ⟨#[]⟩,tm ⟨#[]⟩,tn th 0 0,Z U t.ln,Z U t.cl] 313 (0,0)):=by rw[<-o,<-tR];exact alloc_at _ _
 have tW:f.heap[G]?=tf (tA #[Z U 1,tm t.text,Z U t.n,Z U t.ln,Z U t.cl] 263 (0,0)):=by rw[<-o];exact(cE _ _ G (by omega)).trans xt.out
 have vh:=(A.block N (by have:=tP.out;omega)).trans xo.out;have h4:=H1.out.grow A;have xF:=zH (up.out f A);have xT:=zH A;have ya:=zH tU;have zc:=zH tW;have yb:=zH vh;have H4:=zH h4;obtain⟨c0,c1,c3,f1,hr⟩:=h4.cells;obtain⟨⟨g0,g1,g2,g3,g4⟩,_,yd⟩:=eZ tW;obtain⟨⟨e0,e1,e2,e3,e4,e5,e6⟩,⟨q0,q1,q2,q3,q4,q5,q6⟩,zd⟩:=ed tU;clear o A tU tW vh h4 up tE
 go_upto_region 13 with(go_at_call 171;refine xF.out.mono ?_;rintro e w2 ⟨rfl,rfl⟩)
 obtain⟨E,J⟩:=zE (((f.setCell ⟨r,1,th⟩ (Z U ((i:aw)+1))).setCell ⟨G+1,0,th⟩ (Z U 2)).setCell ⟨G+1,2,th⟩ (tm t.text));rw[J];have vm:bL r lb cap T (i+1) w E:=by
  have a:bL r lb cap T (i+1) f (f.setCell ⟨r,1,th⟩ (Z U ((i:aw)+1))):=⟨H4.out.step,Ext.set1 f r 1 _⟩
  have hx:Ext (·=G+1) (f.setCell ⟨r,1,th⟩ (Z U ((i:aw)+1))) E:=by rw[<-J];exact aa (aa (Ext.refl _ _) _) _
  have ye:aE w.heap.size w f:=by rw[g];exact xl.out.trans (xT.out.mono (by rw[tP.out];omega))
  exact⟨a.1.ext hx (by omega) (by have:=uv.out;omega),(bL.grown ye a).2.trans hx (λk q=> .inr (by omega))⟩
 have vp:E.heap[G+1]?=tf (tA #[Z U 2,Z U 0,tm t.text,tm ⟨#[]⟩,tn th 0 0,Z U t.ln,Z U t.cl] 313 (0,0)):=by
  rw[<-J];exact bk _ (G+1) 2 _ _ _ (bk _ (G+1) 0 _ _ _ ((cT _ _ _ (G+1) (by show G+1≠r;omega)).trans ya.out))
 have vq:E.heap[N]?=tf (tA #[Z U 0,Z U 0,tm ⟨#[]⟩,tm ⟨#[]⟩,tn th 0 0,Z U 0,Z U 0] 313 (0,0)):=by
  rw[<-J];exact(cT _ _ _ N (by show N≠G+1;omega)).trans ((cT _ _ _ N (by show N≠G+1;omega)).trans ((cT _ _ _ N (by show N≠r;omega)).trans yb.out))
 have vr:=zH vm;have vt:=zH vp;have vu:=zH vq;clear J vm vp vq c0 c1 c3 f1 hr e0 e1 e2 e3 e4 e5 e6 q0 q1 q2 q3 q4 q5 q6 g0 g1 g2 g3 g4 yd
 go_upto_region 35 with(go_at_call 172;refine(tM.out E vr.out.1).mono ?_;rintro e W5 ⟨rfl,vx⟩;have ua:=zH vx;clear vx)
 have vy:=vr.out.grow ua.out;have we:=(ua.out.block (G+1) (ae vt.out)).trans vt.out;have wg:=(ua.out.block N (ae vu.out)).trans vu.out;obtain⟨⟨e0,e1,e2,e3,e4,e5,e6⟩,⟨q0,q1,q2,q3,q4,q5,q6⟩,zj⟩:=ed we;have wj:=zH vy;have wk:=zH wg;clear vy we wg
 skip
 go_wp2_with (go_at_call 273;refine(wl.out W5 wj.out.1).mono ?_;rintro e w6 ⟨rfl,ub⟩;have yi:=zH ub;have uc:=(ub.block N (ae wk.out)).trans wk.out;have yk:=zH uc;obtain⟨⟨p0,p1,p2,p3,p4,p5,p6⟩,⟨o0,o1,o2,o3,o4,o5,o6⟩,zp⟩:=ed uc;clear ub uc)
 (try simp only[cQ,Exit.then]);refine dk (er (P:=am) rfl _ _ N 313 _ (0,0) _ rfl (fM yk.out) hZ rfl (by kernel_rfl)) rfl ?_;have hM:bL r lb cap T (i+1) w w6:=wj.out.grow yi.out;exact⟨rfl,hM.1.ext (bV _ _ _ _ _ _ _ _ _) (by omega) (by have:=uv.out;omega),hM.2.trans (bV _ _ _ _ _ _ _ _ _) (λk q=> .inr (by omega))⟩
theorem uh {r lb cap:bj}{T:bp Tok}{i:bj}{t u:Tok}(d:aw)(w:World)(h:Rd r lb cap T i w)(ht:T[i]?=tf t)(q:t.kind=2)(hw:dD t DX=ti)(vc:dD t DW=tj)(hu:T[i+1]?=tf u)(vd:u.kind=1):
  fj am 278 #[tr (tf ⟨r,0,th⟩),Z U d] w λe w'=>e= tB (tv (Ex.cells ⟨7,0,u.text,t.ln,t.cl⟩))/\bL r lb cap T (i+1+1) w w':=by
 obtain⟨N,f⟩:=zE w.heap.size;obtain⟨W1,y⟩:=zE (w.alloc (tA #[Z U 0,Z U 0,tm ⟨#[]⟩,tm ⟨#[]⟩,tn th 0 0,Z U 0,Z U 0] 313));have tP:=ik y f;have vf:W1.heap.size=N+1:=by rw[<-y];simp[f]
 have vh:W1.heap[N]?=tf (tA #[Z U 0,Z U 0,tm ⟨#[]⟩,tm ⟨#[]⟩,tn th 0 0,Z U 0,Z U 0] 313 (0,0)):=by rw[<-y,<-f];exact alloc_at _ _
 have z:=h.grow (by rw[f];exact tP);have tR:=zH (bE W1 z ht);have vm:=zH λW g=>bB W (z.grow g);have tS:∀W,Rd r lb cap T (i+1+1) W->fj am 273 #[tr (tf ⟨r,0,th⟩),tv (Ex.cells ⟨7,0,u.text,t.ln,t.cl⟩)] W λen w'=>en= tB (tv (Ex.cells ⟨7,0,u.text,t.ln,t.cl⟩))/\aE W.heap.size W w':=λW g=>jE _ W g;have vp:=zH λs W g=>bi s W (z.grow g) ht;have tU:=zH (vp.out DW);rw[vc] at tU;unfold DW at tU;have tW:=zH (vp.out DX);rw[hw] at tW;unfold DX at tW;have yd:cg (∀W,Rd r lb cap T (i+1) W->fj am 208 #[tr (tf ⟨r,0,th⟩)] W λe w'=>e= tB (.tuple #[tm u.text,tv #[Z U u.ln,Z U u.cl]])/\bL r lb cap T (i+1+1) W w'):=λW g=>dU W g hu vd;simp only[Tok.cells,q] at tR;unfold Ex.cells at tS;have ye:=zH tS;have hst:∀(w:World)(c:dl cw),c.size=5->(dd ⟨w.heap.size,0,th⟩ [Z U t.kind,tm t.text,Z U t.n,Z U t.ln,Z U t.cl] 0).run am (w.alloc (tA c 263))= .ok () (w.alloc (tA #[Z U t.kind,tm t.text,Z U t.n,Z U t.ln,Z U t.cl] 263)):=λw c hc=>
  cr (P:=am) w 263 c #[Z U t.kind,tm t.text,Z U t.n,Z U t.ln,Z U t.cl] (by show _=tf 5;kernel_rfl) hc (by simp[cn])
 have vq:∀(w:World)(c:dl cw),c.size=7->(dd ⟨w.heap.size,0,th⟩ [Z U 0,Z U 0,tm ⟨#[]⟩,tm ⟨#[]⟩,tn th 0 0,Z U t.ln,Z U t.cl] 0).run am (w.alloc (tA c 313))= .ok () (w.alloc (tA #[Z U 0,Z U 0,tm ⟨#[]⟩,tm ⟨#[]⟩,tn th 0 0,Z U t.ln,Z U t.cl] 313)):=λw c hc=>
  cr (P:=am) w 313 c #[Z U 0,Z U 0,tm ⟨#[]⟩,tm ⟨#[]⟩,tn th 0 0,Z U t.ln,Z U t.cl] (by show _=tf 7;kernel_rfl) hc (by simp[cn])
 rw[q] at hst;have yi:=zH hst;have yk:=zH vq;have An:i<T.length:=(bo.1 ht).1;have hT:=h.short;have At:r<N:=by rw[<-f];exact h.rlt
 have ua:cg (lb<N):=by unfold cg;rw[<-f];exact h.lt
 have yp:=zH y;have yq:=zH tP;have ub:=zH vf;have yr:=zH vh;have H1:=zH z;clear h ht tS hst vq y tP vf vh z q hw vc hu vd;go_enter func278,ntmps278
 go_upto_region 2 with(go_at_call 170;rw[yp.out];refine tR.out.mono ?_;rintro e w2 ⟨rfl,vr⟩;have yv:=yi.out w2;have vt:=zH vr;clear vr)
 clear yv;obtain⟨G,A⟩:=zE w2.heap.size;obtain⟨W3,E⟩:=zE (w2.alloc (tA #[Z U 2,tm t.text,Z U t.n,Z U t.ln,Z U t.cl] 263));rw[A,E];have vu:=zD E vt;have uc:W3.heap.size=G+1:=by rw[<-E,<-A];simp
 have Ax:N+1<=G:=by rw[<-A,<-ub.out];exact vt.out.size
 have ud:W3.heap[G]?=tf (tA #[Z U 2,tm t.text,Z U t.n,Z U t.ln,Z U t.cl] 263 (0,0)):=by rw[<-E,<-A];exact alloc_at _ _
 obtain⟨⟨g0,g1,g2,g3,g4⟩,_,AD⟩:=eZ ud;have vx:=yk.out W3;have yy:=zH vu;have yW:=zH ud;clear A E vu ud;rw[uc] at vx
 go_upto_region 4 with(fail)
 clear vx;obtain⟨J,v⟩:=zE (W3.alloc (tA #[Z U 0,Z U 0,tm ⟨#[]⟩,tm ⟨#[]⟩,tn th 0 0,Z U t.ln,Z U t.cl] 313));rw[v];have K:=zD v yy;have AE:J.heap.size=G+2:=by rw[<-v];simp[uc]
 have vy:J.heap[G+1]?=tf (tA #[Z U 0,Z U 0,tm ⟨#[]⟩,tm ⟨#[]⟩,tn th 0 0,Z U t.ln,Z U t.cl] 313 (0,0)):=by rw[<-v,<-uc];exact alloc_at _ _
 have ue:J.heap[G]?=tf (tA #[Z U 2,tm t.text,Z U t.n,Z U t.ln,Z U t.cl] 263 (0,0)):=by rw[<-v];exact(cE _ _ G (by omega)).trans yW.out
 have we:=(K.block N (by have:=ub.out;omega)).trans yr.out;have h4:=H1.out.grow K;have zc:=zH (vm.out J K);have R:=zH K;have wg:=zH vy;have AF:=zH ue;have wj:=zH we;have H4:=zH h4;obtain⟨⟨g0,g1,g2,g3,g4⟩,_,AH⟩:=eZ ue;clear v K vy ue we h4 vm tR
 go_upto_region 19 with(first
  |(go_at_call 171;refine zc.out.mono ?_;rintro e w2 ⟨rfl,rfl⟩)
  |(go_at_call 172;refine(tU.out J R.out).mono ?_;rintro e W6 ⟨rfl,j⟩;have up:=zH (R.out.trans (j.mono R.out.size));have wk:=zH j;clear j))
 go_upto_region 20 with(go_at_call 172;refine(tW.out W6 up.out).mono ?_;rintro e x ⟨rfl,wl⟩;have tE:=zH (wk.out.trans (wl.mono wk.out.size));clear wl)
 have h7:=H4.out.grow tE.out;have ur:=(tE.out.block (G+1) (ae wg.out)).trans wg.out;have ws:=(tE.out.block N (ae wj.out)).trans wj.out;obtain⟨c0,c1,c3,f1,hr⟩:=h7.cells;obtain⟨⟨e0,e1,e2,e3,e4,e5,e6⟩,⟨q0,q1,q2,q3,q4,q5,q6⟩,zd⟩:=ed ur;have H7:=zH h7;have zj:=zH ur;have zp:=zH ws;clear h7 ur ws
 go_upto_region 22 with(fail)
 obtain⟨W8,tD⟩:=zE ((x.setCell ⟨r,1,th⟩ (Z U ((i:aw)+1))).setCell ⟨G+1,0,th⟩ (Z U 7));rw[tD];have xf:bL r lb cap T (i+1) w W8:=by
  have a:bL r lb cap T (i+1) x (x.setCell ⟨r,1,th⟩ (Z U ((i:aw)+1))):=⟨H7.out.step,Ext.set1 x r 1 _⟩
  have hx:Ext (·=G+1) (x.setCell ⟨r,1,th⟩ (Z U ((i:aw)+1))) W8:=by rw[<-tD];exact aa (Ext.refl _ _) _
  have zr:aE w.heap.size w x:=by rw[f];exact yq.out.trans ((R.out.trans (tE.out.mono R.out.size)).mono (by rw[ub.out];omega))
  exact⟨a.1.ext hx (by omega) (by have:=ua.out;omega),(bL.grown zr a).2.trans hx (λk q=> .inr (by omega))⟩
 have xj:W8.heap[G+1]?=tf (tA #[Z U 7,Z U 0,tm ⟨#[]⟩,tm ⟨#[]⟩,tn th 0 0,Z U t.ln,Z U t.cl] 313 (0,0)):=by
  rw[<-tD];exact bk _ (G+1) 0 _ _ _ ((cT _ _ _ (G+1) (by show G+1≠r;omega)).trans zj.out)
 have xl:W8.heap[N]?=tf (tA #[Z U 0,Z U 0,tm ⟨#[]⟩,tm ⟨#[]⟩,tn th 0 0,Z U 0,Z U 0] 313 (0,0)):=by
  rw[<-tD];exact(cT _ _ _ N (by show N≠G+1;omega)).trans ((cT _ _ _ N (by show N≠r;omega)).trans zp.out)
 have xo:=zH xf;have xp:=zH xj;have zs:=zH xl;clear tD xf xj xl c0 c1 c3 f1 hr e0 e1 e2 e3 e4 e5 e6 q0 q1 q2 q3 q4 q5 q6 zd
 go_upto_region 35 with(go_at_call 208;refine(yd.out W8 xo.out.1).mono ?_;rintro e W9 ⟨rfl,o⟩;have uv:=zH o;have xr:=o.2.heap xp.out (by omega);obtain⟨⟨e0,e1,e2,e3,e4,e5,e6⟩,⟨q0,q1,q2,q3,q4,q5,q6⟩,AI⟩:=ed xr;clear o xr)
 obtain⟨W5,tG⟩:=zE (W9.setCell ⟨G+1,2,th⟩ (tm u.text));rw[tG];have tM:Ext (·=G+1) W9 W5:=by rw[<-tG];exact aa (Ext.refl _ _) _
 have o:=xo.out.trans uv.out;have xt:bL r lb cap T (i+1+1) w W5:=⟨o.1.ext tM (by omega) (by have:=ua.out;omega),o.2.trans tM (λk q=> .inr (by omega))⟩
 have xF:W5.heap[G+1]?=tf (tA #[Z U 7,Z U 0,tm u.text,tm ⟨#[]⟩,tn th 0 0,Z U t.ln,Z U t.cl] 313 (0,0)):=by
  rw[<-tG];exact bk _ (G+1) 2 _ _ _ (uv.out.2.heap xp.out (by omega))
 have xT:W5.heap[N]?=tf (tA #[Z U 0,Z U 0,tm ⟨#[]⟩,tm ⟨#[]⟩,tn th 0 0,Z U 0,Z U 0] 313 (0,0)):=tM.heap (uv.out.2.heap zs.out (by omega)) (by omega);clear tM o;obtain⟨⟨e0,e1,e2,e3,e4,e5,e6⟩,⟨q0,q1,q2,q3,q4,q5,q6⟩,AK⟩:=ed xF;have ya:=zH xt;have yb:=zH xT;clear xt xF xT;clear tG
 go_wp2_with (go_at_call 273;refine(ye.out W5 ya.out.1).mono ?_;rintro e w6 ⟨rfl,j⟩;have up:=zH j;have ux:=(j.block N (ae yb.out)).trans yb.out;have zv:=zH ux;obtain⟨⟨p0,p1,p2,p3,p4,p5,p6⟩,⟨o0,o1,o2,o3,o4,o5,o6⟩,AM⟩:=ed ux;clear j ux)
 (try simp only[cQ,Exit.then]);refine dk (er (P:=am) rfl _ _ N 313 _ (0,0) _ rfl (fM zv.out) hZ rfl (by kernel_rfl)) rfl ?_;have hM:bL r lb cap T (i+1+1) w w6:=ya.out.grow up.out;exact⟨rfl,hM.1.ext (bV _ _ _ _ _ _ _ _ _) (by omega) (by have:=ua.out;omega),hM.2.trans (bV _ _ _ _ _ _ _ _ _) (λk q=> .inr (by omega))⟩
def dG:bl:=⟨#[59]⟩
def AC:bl:=⟨#[45,62]⟩
theorem jK {t:Tok}{s d:bl}(h:dD t s=ti)(f:s≠d):dD t d=tj:=by
 unfold dD at h⊢;rw[ej] at h;have e:t.text=s:=eq_of_beq h.2;rw[e,cN.2 f,Bool.and_false]
theorem oL {t:Tok}(d:t.kind≠2)(e:t.kind≠4)(l:bp bl):l8 t l=tj:=by
 unfold l8;rw[j8];intro s _;unfold dD;rw[cN.2 d,cN.2 e];simp
theorem lJ {t:Tok}{s:bl}(h:dD t s=ti){l:bp bl}(d:∀x∈l,s≠x):l8 t l=tj:=by
 unfold l8;rw[j8];intro x e;rw[jK h (d x e)];simp
inductive eT (T:bp Tok) (i:bj):Ex->bj->Prop
 |num (t:Tok):T[i]?=tf t->t.kind=3->eT T i ⟨1,t.n,⟨#[]⟩,t.ln,t.cl⟩ (i+1)
 |var (t u:Tok):T[i]?=tf t->t.kind=1->T[i+1]?=tf u->dD u eQ=tj->eT T i ⟨2,0,t.text,t.ln,t.cl⟩ (i+1)
 |new (t u:Tok):T[i]?=tf t->t.kind=2->dD t DX=ti->T[i+1]?=tf u->u.kind=1->eT T i ⟨7,0,u.text,t.ln,t.cl⟩ (i+1+1)
theorem eT.first {T:bp Tok}{i k:bj}{e:Ex}(h:eT T i e k):∃t,T[i]?=tf t/\(t.kind=3\/t.kind=1\/dD t DX=ti)/\i<k:=by
 cases h with
 |num t d f=>exact⟨t,d,.inl f,by omega⟩
 |var t u d f=>exact⟨t,d,.inr (.inl f),by omega⟩
 |new t u d f g=>exact⟨t,d,.inr (.inr g),by omega⟩
theorem qF {r lb cap:bj}{T:bp Tok}{i k:bj}{e:Ex}(d:aw)(w:World)(h:Rd r lb cap T i w)(q:eT T i e k):
  fj am 278 #[tr (tf ⟨r,0,th⟩),Z U d] w λv w'=>v= tB (tv e.cells)/\bL r lb cap T k w w':=by
 cases q with
 |num t f g=>exact uf d w h f g
 |var t u f g j o=>exact ug d w h f g j o
 |new t u f g j o x=>exact uh d w h f g j (jK j (by decide)) o x
theorem ui {r lb cap:bj}{T:bp Tok}{i k:bj}{e:Ex}{z:Tok}(d:aw)(w:World)(h:Rd r lb cap T i w)(q:eT T i e k)(hz:T[k]?=tf z)(hs:dD z dG=ti):
  fj am 276 #[tr (tf ⟨r,0,th⟩),Z U d] w λu w'=>u= tB (tv e.cells)/\bL r lb cap T k w w':=by
 obtain⟨N,f⟩:=zE w.heap.size;obtain⟨W1,j⟩:=zE ((w.alloc (tA #[Z U 0,Z U 0,tm ⟨#[]⟩,tm ⟨#[]⟩,tn th 0 0,Z U 0,Z U 0] 313)).alloc (tA #[tm ⟨#[45]⟩,tm ⟨#[33]⟩] 9));have v:=vg j f;have tP:W1.heap.size=N+2:=by rw[<-j];simp[f]
 have tR:=vZ j f;have tS:=yo j f;have y:=h.grow (by rw[f];exact v);obtain⟨t,ht,tU,wg⟩:=q.first
 have A:=gP (N+1) 2 [⟨#[45]⟩,⟨#[33]⟩] W1 y ht (by decide) (by omega) (λk x g=>by
  rw[bt _ _ _ _ _ _ tS]
  match k,g with
  |0,g=>simp at g;subst g;rfl
  |1,g=>simp at g;subst g;rfl)
 have tW:l8 t [⟨#[45]⟩,⟨#[33]⟩]=tj:=by
  rcases tU with h|h|h
  ·exact oL (by omega) (by omega) _
  ·exact oL (by omega) (by omega) _
  ·exact lJ h (by decide)
 rw[tW] at A;have vm:=zH A;have E:∀W,Rd r lb cap T i W->fj am 278 #[tr (tf ⟨r,0,th⟩),Z U d] W λu w'=>u= tB (tv e.cells)/\bL r lb cap T k W w':=λW J=>qF d W J q;have K:cg (∀W,Rd r lb cap T k W->zP 172 #[tr (tf ⟨r,0,th⟩),tm AC] W (tt (dD z AC))):=λW J=>bi _ W J hz;rw[jK hs (by decide)] at K;unfold AC at K;unfold Ex.cells at E⊢;have vp:=zH E;have hst:∀(w:World)(c:dl cw),c.size=7->(dd ⟨w.heap.size,0,th⟩ [Z U e.kind,Z U e.n,tm e.nm,tm ⟨#[]⟩,tn th 0 0,Z U e.ln,Z U e.cl] 0).run am (w.alloc (tA c 313))= .ok () (w.alloc (tA #[Z U e.kind,Z U e.n,tm e.nm,tm ⟨#[]⟩,tn th 0 0,Z U e.ln,Z U e.cl] 313)):=λw c hc=>
  cr (P:=am) w 313 c #[Z U e.kind,Z U e.n,tm e.nm,tm ⟨#[]⟩,tn th 0 0,Z U e.ln,Z U e.cl] (by show _=tf 7;kernel_rfl) hc (by simp[cn])
 have vq:=zH hst;have wj:r<N:=by rw[<-f];exact h.rlt
 have vr:cg (lb<N):=by unfold cg;rw[<-f];exact h.lt
 have vt:=zH j;have vu:=zH v;have ua:=zH tP;have vx:=zH tR;have H1:=zH y;clear h q hz hs j v tP tR tS y ht tU A tW E hst;go_enter func276,ntmps276
 go_upto_region 8 with(go_at_call 260;rw[vt.out];refine vm.out.mono ?_;rintro e w2 ⟨rfl,ub⟩;have R:=zH ub;clear ub)
 have H2:=zH (H1.out.grow R.out);have uc:=zH ((R.out.block N (by rw[ua.out];omega)).trans vx.out)
 go_upto_region 9 with(go_at_call 278;refine(vp.out w2 H2.out).mono ?_;rintro e w3 ⟨rfl,ud⟩;have tD:=zH ud;have vy:=vq.out w3;clear ud)
 clear vy;obtain⟨G,hG⟩:=zE w3.heap.size;obtain⟨W4,o⟩:=zE (w3.alloc (tA #[Z U e.kind,Z U e.n,tm e.nm,tm ⟨#[]⟩,tn th 0 0,Z U e.ln,Z U e.cl] 313));rw[hG,o];have tE:=gy o;have ue:aE w.heap.size w w2:=by rw[f];exact vu.out.trans (R.out.mono (by rw[ua.out];omega))
 have up:bL r lb cap T k w W4:=(bL.grown ue tD.out).grow tE;have ur:W4.heap[G]?=tf (tA #[Z U e.kind,Z U e.n,tm e.nm,tm ⟨#[]⟩,tn th 0 0,Z U e.ln,Z U e.cl] 313 (0,0)):=by rw[<-o,<-hG];exact alloc_at _ _
 have uv:=(tE.block N (ae (tD.out.2.heap uc.out (by omega)))).trans (tD.out.2.heap uc.out (by omega));have ux:=zH up;have vc:=zH ur;have vd:=zH uv;clear hG o tE ue up ur uv
 go_loopw [9] (λ_ wr=>wr=W4) (λ_ _=>0)
 case atStart=>rfl
 case round=>
  obtain rfl:=hrel
  go_upto_region 14 with(go_at_call 172;refine(K.out _ ux.out.1).mono ?_;rintro e w5 ⟨rfl,vf⟩;have tG:=zH vf;clear vf)
  have vh:=(tG.out.block G (ae vc.out)).trans vc.out;have tM:=(tG.out.block N (ae vd.out)).trans vd.out;have we:=zH tM;obtain⟨⟨g0,g1,g2,g3,g4,g5,g6⟩,_,wk⟩:=ed vh;obtain⟨⟨p0,p1,p2,p3,p4,p5,p6⟩,⟨o0,o1,o2,o3,o4,o5,o6⟩,wl⟩:=ed tM;clear vh tM;go_wp2;(try simp only[cQ,Exit.then]);refine dk (er (P:=am) rfl _ _ N 313 _ (0,0) _ rfl (fM we.out) hZ rfl (by kernel_rfl)) rfl ?_;have hM:bL r lb cap T k w w5:=ux.out.grow tG.out;exact⟨rfl,hM.1.ext (bV _ _ _ _ _ _ _ _ _) (by omega) (by have:=vr.out;omega),hM.2.trans (bV _ _ _ _ _ _ _ _ _) (λk hk=> .inr (by omega))⟩
def opsOf (q:bj):bp bl:=match q with
 |0=>[⟨#[42]⟩,⟨#[47]⟩,⟨#[37]⟩]
 |1=>[⟨#[43]⟩,⟨#[45]⟩]
 |_=>[⟨#[61,61]⟩,⟨#[33,61]⟩,⟨#[60]⟩,⟨#[60,61]⟩,⟨#[62]⟩,⟨#[62,61]⟩]
def yE:dl cw:=#[tm ⟨#[42]⟩,tm ⟨#[47]⟩,tm ⟨#[37]⟩]
def BZ:dl cw:=#[tm ⟨#[43]⟩,tm ⟨#[45]⟩]
def DY:dl cw:=#[tm ⟨#[61,61]⟩,tm ⟨#[33,61]⟩,tm ⟨#[60]⟩,tm ⟨#[60,61]⟩,tm ⟨#[62]⟩,tm ⟨#[62,61]⟩]
def oM (w:World)(N:bj):World:=
 ((((w.alloc (tA #[Z U 0,Z U 0,tm ⟨#[]⟩,tm ⟨#[]⟩,tn th 0 0,Z U 0,Z U 0] 313)).alloc (tA #[tm ⟨#[42]⟩,tm ⟨#[47]⟩,tm ⟨#[37]⟩] 9)).alloc (tA #[tm ⟨#[43]⟩,tm ⟨#[45]⟩] 9)).alloc
  (tA #[tm ⟨#[61,61]⟩,tm ⟨#[33,61]⟩,tm ⟨#[60]⟩,tm ⟨#[60,61]⟩,tm ⟨#[62]⟩,tm ⟨#[62,61]⟩] 9)).alloc (tA #[tn (tf ⟨N+1,0,th⟩) 3 3,tn (tf ⟨N+2,0,th⟩) 2 2,tn (tf ⟨N+3,0,th⟩) 6 6] 223)
structure wL (w W:World)(N:bj):Prop where
 low:aE N w W
 size:W.heap.size=N+5
 res:W.heap[N]?=tf (tA #[Z U 0,Z U 0,tm ⟨#[]⟩,tm ⟨#[]⟩,tn th 0 0,Z U 0,Z U 0] 313 (0,0))
 r0:W.heap[N+1]?=tf (tA yE 9 (0,0))
 r1:W.heap[N+2]?=tf (tA BZ 9 (0,0))
 r2:W.heap[N+3]?=tf (tA DY 9 (0,0))
 out:W.heap[N+4]?=tf (tA #[tn (tf ⟨N+1,0,th⟩) 3 3,tn (tf ⟨N+2,0,th⟩) 2 2,tn (tf ⟨N+3,0,th⟩) 6 6] 223 (0,0))
theorem rG (w:World)(N:bj)(d:w.heap.size=N):wL w (oM w N) N:=by
 unfold oM;refine⟨(((((aq N w).alloc (by omega) _).alloc (by simp<;>omega) _).alloc (by simp<;>omega) _).alloc (by simp<;>omega) _).alloc (by simp<;>omega) _,by simp[d], ?_, ?_, ?_, ?_, ?_⟩
 ·refine(cE _ _ N (by simp;omega)).trans ((cE _ _ N (by simp;omega)).trans ((cE _ _ N (by simp;omega)).trans ((cE _ _ N (by simp;omega)).trans ?_)))
  rw[<-d];exact alloc_at _ _
 ·refine(cE _ _ (N+1) (by simp;omega)).trans ((cE _ _ (N+1) (by simp;omega)).trans ((cE _ _ (N+1) (by simp;omega)).trans ?_))
  have:=alloc_at (w.alloc (tA #[Z U 0,Z U 0,tm ⟨#[]⟩,tm ⟨#[]⟩,tn th 0 0,Z U 0,Z U 0] 313)) (tA yE 9);rw[World.size_alloc,d] at this;exact this
 ·refine(cE _ _ (N+2) (by simp;omega)).trans ((cE _ _ (N+2) (by simp;omega)).trans ?_)
  have:=alloc_at ((w.alloc (tA #[Z U 0,Z U 0,tm ⟨#[]⟩,tm ⟨#[]⟩,tn th 0 0,Z U 0,Z U 0] 313)).alloc (tA yE 9)) (tA BZ 9);rw[World.size_alloc,World.size_alloc,d] at this;exact this
 ·refine(cE _ _ (N+3) (by simp;omega)).trans ?_
  have:=alloc_at (((w.alloc (tA #[Z U 0,Z U 0,tm ⟨#[]⟩,tm ⟨#[]⟩,tn th 0 0,Z U 0,Z U 0] 313)).alloc (tA yE 9)).alloc (tA BZ 9)) (tA DY 9);rw[World.size_alloc,World.size_alloc,World.size_alloc,d] at this;exact this
 ·have:=alloc_at ((((w.alloc (tA #[Z U 0,Z U 0,tm ⟨#[]⟩,tm ⟨#[]⟩,tn th 0 0,Z U 0,Z U 0] 313)).alloc (tA yE 9)).alloc (tA BZ 9)).alloc (tA DY 9)) (tA #[tn (tf ⟨N+1,0,th⟩) 3 3,tn (tf ⟨N+2,0,th⟩) 2 2,tn (tf ⟨N+3,0,th⟩) 6 6] 223)
  rw[World.size_alloc,World.size_alloc,World.size_alloc,World.size_alloc,d] at this;exact this
theorem AJ {r lb cap:bj}{T:bp Tok}{i k:bj}{e:Ex}{z:Tok}(d:aw)(w:World)(h:Rd r lb cap T i w)(u:eT T i e k)(v:T[k]?=tf z)(x:dD z dG=ti):
  fj am 272 #[tr (tf ⟨r,0,th⟩),Z U (-1),Z U d] w λG w'=>G= tB (tv e.cells)/\bL r lb cap T k w w':=by
 obtain⟨N,f⟩:=zE w.heap.size;have g:=rG w N f;obtain⟨W1,j⟩:=zE (oM w N);rw[j] at g;unfold oM at j;have y:=h.grow (show aE w.heap.size w W1 by rw[f];exact g.low);have o:=ui d W1 y u v x;unfold Ex.cells at o⊢;have J:=zH o;have tG:r<N:=by rw[<-f];exact h.rlt
 have K:cg (lb<N):=by unfold cg;rw[<-f];exact h.lt
 have R:=zH j;have A:=zH g;clear h u v x j g y o;go_enter func272,ntmps272
 go_upto_region 2 with(fail)
 rw[R.out]
 go_wp2_with (go_at_call 276;refine J.out.mono ?_;rintro e W ⟨rfl,q⟩;have t:=q.2.heap A.out.res (by omega);have tD:=zH q;have tE:=zH t;obtain⟨⟨p0,p1,p2,p3,p4,p5,p6⟩,⟨o0,o1,o2,o3,o4,o5,o6⟩,tM⟩:=ed t;clear q t)
 (try simp only[cQ,Exit.then]);refine dk (er (P:=am) rfl _ _ N 313 _ (0,0) _ rfl (fM tE.out) hZ rfl (by kernel_rfl)) rfl ?_;have E:bL r lb cap T k w W:=bL.grown (by rw[f];exact A.out.low) tD.out;exact⟨rfl,E.1.ext (bV _ _ _ _ _ _ _ _ _) (by omega) (by have:=K.out;omega),E.2.trans (bV _ _ _ _ _ _ _ _ _) (λk hk=> .inr (by omega))⟩
theorem iM {W:World}{b:bj}{l:bp bl}{d:dl cw}{t:fX}(h:W.heap[b]?=tf (tA d t (0,0)))(e:d=(l.map eM).toArray):oK W b l:=λk x f=>by
 rw[bt _ _ _ _ _ _ h,e];simp[f]
theorem CE {w W:World}{N:bj}(h:wL w W N):∀(q:bj),q<3->oK W (N+1+q) (opsOf q)
 |0,_=>iM h.r0 rfl
 |1,_=>iM h.r1 rfl
 |2,_=>iM h.r2 rfl
theorem CF {w W:World}{N:bj}(h:wL w W N):∀(q:bj),q<3->W.cell? ⟨N+4,q,th⟩=tf (tn (tf ⟨N+1+q,0,th⟩) (opsOf q).length (opsOf q).length)
 |0,_=>by rw[bt _ _ _ _ _ _ h.out];rfl
 |1,_=>by rw[bt _ _ _ _ _ _ h.out];rfl
 |2,_=>by rw[bt _ _ _ _ _ _ h.out];rfl
theorem Gc {z:Tok}(d:dD z dG=ti):∀(q:bj),q<3->l8 z (opsOf q)=tj
 |0,_=>lJ d (by decide)
 |1,_=>lJ d (by decide)
 |2,_=>lJ d (by decide)
theorem E5:∀(q:bj),q<3->(opsOf q).length<=20
 |0,_=>by decide
 |1,_=>by decide
 |2,_=>by decide
theorem oK.ext {W d:World}{b:bj}{l:bp bl}{M:bj->Prop}(h:oK W b l)(e:Ext M W d)(hb:b<W.heap.size)(f:¬M b):oK d b l:=λk x g=>by
 rw[e.cell (a:=⟨b,k,th⟩) hb f];exact h k x g
theorem wM {r lb cap:bj}{T:bp Tok}{i k:bj}{e:Ex}{z:Tok}(q:bj)(t:q<3)(d:aw)(w:World)(h:Rd r lb cap T i w)(hl:eT T i e k)(hz:T[k]?=tf z)(hs:dD z dG=ti)
  (tG:∀W,Rd r lb cap T i W->fj am 272 #[tr (tf ⟨r,0,th⟩),Z U ((q:aw)-1),Z U d] W λy w'=>y= tB (tv e.cells)/\bL r lb cap T k W w'):
  fj am 272 #[tr (tf ⟨r,0,th⟩),Z U (q:aw),Z U d] w λy w'=>y= tB (tv e.cells)/\bL r lb cap T k w w':=by
 obtain⟨N,o⟩:=zE w.heap.size;have f:=rG w N o;obtain⟨W1,u⟩:=zE (oM w N);rw[u] at f;unfold oM at u;have h1:=h.grow (show aE w.heap.size w W1 by rw[o];exact f.low);have A:=tG W1 h1;have E:∀W,Rd r lb cap T k W->Ext (·=r) W1 W->zP 260 #[tr (tf ⟨r,0,th⟩),tn (tf ⟨N+1+q,0,th⟩) (opsOf q).length (opsOf q).length] W (tt tj):=by
  intro W hW v;have vx:=v.size;have uv:=h.rlt;have ux:=f.size;have vc:=(CE f q t).ext v (by omega) (by omega);have:=gP (N+1+q) (opsOf q).length (opsOf q) W hW hz (E5 q t) (by omega) vc
  rwa [Gc hs q t] at this
 have J:∀W,Ext (·=r) W1 W->W.cell? ⟨N+4,q,th⟩=tf (tn (tf ⟨N+1+q,0,th⟩) (opsOf q).length (opsOf q).length):=by
  intro W v;have uv:=h.rlt;have ux:=f.size;rw[v.cell (a:=⟨N+4,q,th⟩) (by show N+4<_;omega) (by show¬N+4=r;omega)];exact CF f q t
 obtain⟨OL,tM⟩:=zE ((opsOf q).length);rw[tM] at E J;unfold Ex.cells at A⊢;have vd:=zH A;have tP:=zH E;have tR:=zH J;have hst:∀(w:World)(c:dl cw),c.size=7->(dd ⟨w.heap.size,0,th⟩ [Z U e.kind,Z U e.n,tm e.nm,tm ⟨#[]⟩,tn th 0 0,Z U e.ln,Z U e.cl] 0).run am (w.alloc (tA c 313))= .ok () (w.alloc (tA #[Z U e.kind,Z U e.n,tm e.nm,tm ⟨#[]⟩,tn th 0 0,Z U e.ln,Z U e.cl] 313)):=λw c hc=>
  cr (P:=am) w 313 c #[Z U e.kind,Z U e.n,tm e.nm,tm ⟨#[]⟩,tn th 0 0,Z U e.ln,Z U e.cl] (by show _=tf 7;kernel_rfl) hc (by simp[cn])
 have vf:=zH hst;have vy:r<N:=by rw[<-o];exact h.rlt
 have vh:cg (lb<N):=by unfold cg;rw[<-o];exact h.lt
 have vm:=zH u;have K:=zH f;have we:(q:aw)<3:=by omega
 clear h hl hz hs u f h1 A E J hst tG tM;go_enter func272,ntmps272
 go_upto_region 2 with(fail)
 rw[vm.out]
 go_upto_region 5 with(go_at_call 272;refine vd.out.mono ?_;rintro e R ⟨rfl,tS⟩;have vp:=zH tS;have vq:=vf.out R;clear tS)
 clear vq;obtain⟨G,hG⟩:=zE R.heap.size;obtain⟨g,x⟩:=zE (R.alloc (tA #[Z U e.kind,Z U e.n,tm e.nm,tm ⟨#[]⟩,tn th 0 0,Z U e.ln,Z U e.cl] 313));rw[hG,x];have tU:=gy x;have tW:aE w.heap.size w W1:=by rw[o];exact K.out.low
 have j:bL r lb cap T k W1 g:=vp.out.grow tU;have ua:bL r lb cap T k w g:=bL.grown tW j;have ub:g.heap[G]?=tf (tA #[Z U e.kind,Z U e.n,tm e.nm,tm ⟨#[]⟩,tn th 0 0,Z U e.ln,Z U e.cl] 313 (0,0)):=by rw[<-x,<-hG];exact alloc_at _ _
 have uc:=j.2.heap K.out.res (by omega);have vr:=zH (tP.out g j.1 j.2);have wg:=tR.out g j.2;have vt:=zH ua;have ud:=zH ub;have ue:=zH uc;have wj:N+4<g.heap.size:=ae (j.2.heap K.out.out (by omega));clear hG x tU tW j ua ub uc tP tR
 go_loopw [9] (λ_ wr=>wr=g) (λ_ _=>0)
 case atStart=>rfl
 case round=>
  obtain rfl:=hrel
  go_upto_region 11 with(go_at_call 260;refine vr.out.mono ?_;rintro e w5 ⟨rfl,up⟩;have tD:=zH up;clear up)
  have ur:=(tD.out.block G (ae ud.out)).trans ud.out;have tE:=(tD.out.block N (ae ue.out)).trans ue.out;have vu:=zH tE;obtain⟨⟨g0,g1,g2,g3,g4,g5,g6⟩,_,wk⟩:=ed ur;obtain⟨⟨p0,p1,p2,p3,p4,p5,p6⟩,⟨o0,o1,o2,o3,o4,o5,o6⟩,wl⟩:=ed tE;clear ur tE;go_wp2;(try simp only[cQ,Exit.then]);refine dk (er (P:=am) rfl _ _ N 313 _ (0,0) _ rfl (fM vu.out) hZ rfl (by kernel_rfl)) rfl ?_;have hM:bL r lb cap T k w w5:=vt.out.grow tD.out;exact⟨rfl,hM.1.ext (bV _ _ _ _ _ _ _ _ _) (by omega) (by have:=vh.out;omega),hM.2.trans (bV _ _ _ _ _ _ _ _ _) (λk hk=> .inr (by omega))⟩
theorem mh {r lb cap:bj}{T:bp Tok}{i k:bj}{e:Ex}{z:Tok}(d:aw)(f:eT T i e k)(g:T[k]?=tf z)(j:dD z dG=ti):
  ∀(q:bj)(_:q<=3) (w:World) (_:Rd r lb cap T i w),fj am 272 #[tr (tf ⟨r,0,th⟩),Z U ((q:aw)-1),Z U d] w λo w'=>o= tB (tv e.cells)/\bL r lb cap T k w w'
 |0,_,w,h=>AJ d w h f g j
 |q+1,u,w,h=>by
  have:=wM q (by omega) d w h f g j (λW t=>mh d f g j q (by omega) W t);rw[show((q+1:bj):aw)-1=(q:aw) by omega];exact this
theorem nE {r lb cap:bj}{T:bp Tok}{i k:bj}{e:Ex}{z:Tok}(d:aw)(w:World)(h:Rd r lb cap T i w)(u:eT T i e k)(v:T[k]?=tf z)(x:dD z dG=ti):
  fj am 263 #[tr (tf ⟨r,0,th⟩),Z U d] w λG w'=>G= tB (tv e.cells)/\bL r lb cap T k w w':=by
 obtain⟨N,f⟩:=zE w.heap.size;obtain⟨W1,g⟩:=zE (w.alloc (tA #[Z U 0,Z U 0,tm ⟨#[]⟩,tm ⟨#[]⟩,tn th 0 0,Z U 0,Z U 0] 313));have o:=ik g f;have y:W1.heap[N]?=tf (tA #[Z U 0,Z U 0,tm ⟨#[]⟩,tm ⟨#[]⟩,tn th 0 0,Z U 0,Z U 0] 313 (0,0)):=by rw[<-g,<-f];exact alloc_at _ _
 have A:=h.grow (by rw[f];exact o);have j:=mh d u v x 3 (cd _) W1 A;rw[show((3:bj):aw)-1=2 from rfl] at j;unfold Ex.cells at j⊢;have J:=zH j;have tM:r<N:=by rw[<-f];exact h.rlt
 have K:cg (lb<N):=by unfold cg;rw[<-f];exact h.lt
 have R:=zH g;have W:=zH o;have tD:=zH y;clear h u v x g o y A j;go_enter func263,ntmps263
 go_wp2_with (go_at_call 272;rw[R.out];refine J.out.mono ?_;rintro e w3 ⟨rfl,q⟩;have t:=q.2.heap tD.out (by omega);have tE:=zH q;have tG:=zH t;obtain⟨⟨p0,p1,p2,p3,p4,p5,p6⟩,⟨o0,o1,o2,o3,o4,o5,o6⟩,tP⟩:=ed t;clear q t)
 (try simp only[cQ,Exit.then]);refine dk (er (P:=am) rfl _ _ N 313 _ (0,0) _ rfl (fM tG.out) hZ rfl (by kernel_rfl)) rfl ?_;have E:bL r lb cap T k w w3:=bL.grown (by rw[f];exact W.out) tE.out;exact⟨rfl,E.1.ext (bV _ _ _ _ _ _ _ _ _) (by omega) (by have:=K.out;omega),E.2.trans (bV _ _ _ _ _ _ _ _ _) (λk hk=> .inr (by omega))⟩
structure Sm where
 kind:aw
 ty:Ty
 nm:bl
 E:cw
 ln:aw
 cl:aw
 es:bp Ex
def Sm.cells (s:Sm):dl cw:=#[Z U s.kind,tt s.ty.1,tm s.ty.2,tm s.nm,s.E,tn th 0 0,tn th 0 0,Z U s.ln,Z U s.cl]
def Ha (e:Ex):bp cw:=e.cells.toList
def Sm.inn (B:bj)(w:World)(s:Sm):Prop:=
 (s.es=[]/\s.E= tn th 0 0)\/∃g cap,s.E= tn (tf ⟨g,0,th⟩) s.es.length cap/\B<=g/\w.heap[g]?=tf (tA (s.es.flatMap Ha).toArray 313 (0,0))
theorem Sm.inn.ext {B:bj}{w w':World}{s:Sm}{M:bj->Prop}(h:s.inn B w)(f:Ext M w w')(j:∀k,B<=k->k<w.heap.size->¬M k):s.inn B w':=by
 rcases h with h|⟨g,cap,o,d,e⟩
 ·exact .inl h
 ·exact .inr ⟨g,cap,o,d,f.heap e (j g d (ae e))⟩
theorem Sm.inn.mono {B d:bj}{w:World}{s:Sm}(h:s.inn B w)(e:d<=B):s.inn d w:=by
 rcases h with h|⟨g,cap,f,j,o⟩
 ·exact .inl h
 ·exact .inr ⟨g,cap,f,eN e j,o⟩
structure qc where
 kind:aw
 ty:Ty
 nm:bl
 es:bp Ex
def Sm.shp (s:Sm):qc:=⟨s.kind,s.ty,s.nm,s.es⟩
def qR:bl:=⟨#[114,101,116,117,114,110]⟩
def Ca:bl:=⟨#[102,114,101,101]⟩
def nG:bl:=⟨#[41]⟩
def Gx:bl:=⟨#[61]⟩
def iE (r lb cap:bj)(T:bp Tok)(w:World)(d:qc)(k:bj)(e:Ending)(w':World):Prop:=
 ∃s:Sm,e= tB (tv s.cells)/\s.shp=d/\s.inn w.heap.size w'/\bL r lb cap T k w w'
theorem rH (l:bp UInt8):(⟨l.toArray⟩:bl).toList=l:=by rw[oA]
theorem wN {t:Tok}{s:bl}(h:dD t s=ti):t.text=s/\(t.kind=2\/t.kind=4):=by
 unfold dD at h;rw[ej,ip] at h;exact⟨eq_of_beq h.2,by rcases h.1 with h|h;exact .inl (eq_of_beq h);exact .inr (eq_of_beq h)⟩
theorem wO {r lb cap:bj}{T:bp Tok}{i k:bj}{t z:Tok}{e:Ex}(ln cl d:aw)(w:World)(h:Rd r lb cap T i w)(ht:T[i]?=tf t)(v:dD t qR=ti)(hl:eT T (i+1) e k)(hz:T[k]?=tf z)(hs:dD z dG=ti):
  fj am 261 #[tr (tf ⟨r,0,th⟩),tv #[Z U 0,tt tj,tm ⟨#[]⟩,tm ⟨#[]⟩,tn th 0 0,tn th 0 0,tn th 0 0,Z U ln,Z U cl],Z U d] w (iE r lb cap T w ⟨8,bG,⟨#[]⟩,[e]⟩ (k+1)):=by
 obtain⟨N,g⟩:=zE w.heap.size;obtain⟨W1,o⟩:=zE ((w.alloc (tA #[Z U 0,tt tj,tm ⟨#[]⟩,tm ⟨#[]⟩,tn th 0 0,tn th 0 0,tn th 0 0,Z U ln,Z U cl] 282)).alloc (tA #[Z U 0,tt tj,tm ⟨#[]⟩,tm ⟨#[]⟩,tn th 0 0,tn th 0 0,tn th 0 0,Z U 0,Z U 0] 282));have tM:=vg o g;have up:W1.heap.size=N+2:=by rw[<-o];simp[g]
 have ur:=vZ o g;have uv:=yo o g;have h1:=h.grow (by rw[g];exact tM);have ux:=zH (bE W1 h1 ht);have tP:∀W,Rd r lb cap T (i+1) W->fj am 263 #[tr (tf ⟨r,0,th⟩),Z U d] W λen w'=>en= tB (tv e.cells)/\bL r lb cap T k W w':=λW hW=>nE d W hW hl hz hs;unfold Ex.cells at tP;have ws:=zH tP;have vc:cg (∀W,Rd r lb cap T k W->fj am 207 #[tr (tf ⟨r,0,th⟩),tm dG] W λe w'=>e= tB (.tuple #[])/\bL r lb cap T (k+1) W w'):=λW hW=>aY dG W hW hz hs;unfold dG at vc;obtain⟨tR,_⟩:=wN v;obtain⟨f,q⟩:=zE t.text;have hst:∀(w:World)(c:dl cw),c.size=5->(dd ⟨w.heap.size,0,th⟩ [Z U t.kind,tm f,Z U t.n,Z U t.ln,Z U t.cl] 0).run am (w.alloc (tA c 263))= .ok () (w.alloc (tA #[Z U t.kind,tm f,Z U t.n,Z U t.ln,Z U t.cl] 263)):=λw c hc=>
  cr (P:=am) w 263 c #[Z U t.kind,tm f,Z U t.n,Z U t.ln,Z U t.cl] (by show _=tf 5;kernel_rfl) hc (by simp[cn])
 have xf:=zH hst;simp only[Tok.cells,q] at ux;rw[q] at tR;have u:f.toList=[114,101,116,117,114,110]:=by rw[tR];exact rH [114,101,116,117,114,110]
 have x1:(f.toList==[105,102])=tj:=by rw[u];rfl
 have x2:(f.toList==[119,104,105,108,101])=tj:=by rw[u];rfl
 have x3:(f.toList==[98,114,101,97,107])=tj:=by rw[u];rfl
 have x4:(f.toList==[99,111,110,116,105,110,117,101])=tj:=by rw[u];rfl
 have x5:(f.toList==[114,101,116,117,114,110])=ti:=by rw[u];rfl
 have yv:i<T.length:=(bo.1 ht).1;have hT:=h.short;have yy:r<N:=by rw[<-g];exact h.rlt
 have tS:cg (lb<N):=by unfold cg;rw[<-g];exact h.lt
 have xj:=zH o;have xl:=zH tM;have K:=zH up;have xo:=zH ur;have xp:=zH uv;have H1:=zH h1;clear h ht v hl hz hs o tM up ur uv h1 tP tR q hst u;go_enter func261,ntmps261
 go_upto_region 2 with(go_at_call 170;rw[xj.out];refine ux.out.mono ?_;rintro e w2 ⟨rfl,vd⟩;have xr:=xf.out w2;have vf:=zH vd;clear vd)
 clear xr;obtain⟨G,R⟩:=zE w2.heap.size;obtain⟨j,tD⟩:=zE (w2.alloc (tA #[Z U t.kind,tm f,Z U t.n,Z U t.ln,Z U t.cl] 263));rw[R,tD];have x:=zD tD vf;have yW:N+2<=G:=by rw[<-R,<-K.out];exact vf.out.size
 have vh:j.heap[G]?=tf (tA #[Z U t.kind,tm f,Z U t.n,Z U t.ln,Z U t.cl] 263 (0,0)):=by rw[<-tD,<-R];exact alloc_at _ _
 obtain⟨⟨g0,g1,g2,g3,g4⟩,_,zc⟩:=eZ vh;have tU:=(x.block N (by have:=K.out;omega)).trans xo.out;have vm:=(x.block (N+1) (by have:=K.out;omega)).trans xp.out;obtain⟨⟨a0,a1,a2,a3,a4,a5,a6,a7,a8⟩,⟨b0,b1,b2,b3,b4,b5,b6,b7,b8⟩,xt⟩:=fe tU;have h3:=H1.out.grow x;obtain⟨c0,c1,c3,f1,hr⟩:=h3.cells;have xF:=zH x;have xT:=zH tU;have ya:=zH vm;have H3:=zH h3;clear R tD x vh tU vm h3
 go_upto_region 23 with(fail)
 obtain⟨y,A⟩:=zE ((j.setCell ⟨r,1,th⟩ (Z U ((i:aw)+1))).setCell ⟨N,0,th⟩ (Z U 8));rw[A];have vp:bL r lb cap T (i+1) w y:=by
  have a:bL r lb cap T (i+1) j (j.setCell ⟨r,1,th⟩ (Z U ((i:aw)+1))):=⟨H3.out.step,Ext.set1 j r 1 _⟩
  have q:Ext (·=N) (j.setCell ⟨r,1,th⟩ (Z U ((i:aw)+1))) y:=by rw[<-A];exact aa (Ext.refl _ _) _
  have yb:aE w.heap.size w j:=by rw[g];exact xl.out.trans (xF.out.mono (by rw[K.out];omega))
  exact⟨a.1.ext q (by omega) (by have:=tS.out;omega),(bL.grown yb a).2.trans q (λk v=> .inr (by omega))⟩
 have vq:y.heap[N]?=tf (tA #[Z U 8,tt tj,tm ⟨#[]⟩,tm ⟨#[]⟩,tn th 0 0,tn th 0 0,tn th 0 0,Z U ln,Z U cl] 282 (0,0)):=by
  rw[<-A];exact bk _ N 0 _ _ _ ((cT _ _ _ N (by show N≠r;omega)).trans xT.out)
 have vr:y.heap[N+1]?=tf (tA #[Z U 0,tt tj,tm ⟨#[]⟩,tm ⟨#[]⟩,tn th 0 0,tn th 0 0,tn th 0 0,Z U 0,Z U 0] 282 (0,0)):=by
  rw[<-A];exact(cT _ _ _ (N+1) (by show N+1≠N;omega)).trans ((cT _ _ _ (N+1) (by show N+1≠r;omega)).trans ya.out)
 have vt:=zH vp;have yd:=zH vq;have vu:=zH vr;clear A vp vq vr a0 a1 a2 a3 a4 a5 a6 a7 a8 b0 b1 b2 b3 b4 b5 b6 b7 b8 c0 c1 c3 f1 hr g0 g1 g2 g3 g4 xt
 go_upto_region 34 with(go_at_call 263;refine(ws.out y vt.out.1).mono ?_;rintro e w5 ⟨rfl,tW⟩;have ua:=zH tW;have ub:=tW.2.heap yd.out (by omega);have ye:=zH ub;obtain⟨⟨a0,a1,a2,a3,a4,a5,a6,a7,a8⟩,⟨b0,b1,b2,b3,b4,b5,b6,b7,b8⟩,yi⟩:=fe ub;clear tW ub)
 obtain⟨Q,hQ⟩:=zE w5.heap.size;rw[hQ];obtain⟨E,J⟩:=zE ((w5.setCell ⟨N,4,th⟩ (tn (tf ⟨Q,0,th⟩) 1 1)).alloc (tA #[Z U e.kind,Z U e.n,tm e.nm,tm ⟨#[]⟩,tn th 0 0,Z U e.ln,Z U e.cl] 313));rw[J];have tE:Ext (·=N) w5 E:=by rw[<-J];exact(aa (Ext.refl _ _) _).alloc _
 have zd:N+1<Q:=by rw[<-hQ];exact ae (ua.out.2.heap vu.out (by omega))
 have vx:E.heap[Q]?=tf (tA #[Z U e.kind,Z U e.n,tm e.nm,tm ⟨#[]⟩,tn th 0 0,Z U e.ln,Z U e.cl] 313 (0,0)):=by
  have:=alloc_at (w5.setCell ⟨N,4,th⟩ (tn (tf ⟨Q,0,th⟩) 1 1)) (tA #[Z U e.kind,Z U e.n,tm e.nm,tm ⟨#[]⟩,tn th 0 0,Z U e.ln,Z U e.cl] 313);rw[World.size_setCell,hQ,J] at this;exact this
 have vy:E.heap[N]?=tf (tA #[Z U 8,tt tj,tm ⟨#[]⟩,tm ⟨#[]⟩,tn (tf ⟨Q,0,th⟩) 1 1,tn th 0 0,tn th 0 0,Z U ln,Z U cl] 282 (0,0)):=by
  rw[<-J];exact(cE _ _ N (by rw[World.size_setCell];omega)).trans (bk _ N 4 _ _ _ ye.out)
 have we:=tE.heap (ua.out.2.heap vu.out (by omega)) (show¬N+1=N by omega);have uc:=vt.out.trans ua.out;have wg:bL r lb cap T k w E:=⟨uc.1.ext tE (by omega) (by have:=tS.out;omega),uc.2.trans tE (λk v=> .inr (by omega))⟩
 have wj:=zH wg;have yk:=zH vx;have yp:=zH vy;have yq:=zH we;clear hQ J tE vx vy we uc wg a0 a1 a2 a3 a4 a5 a6 a7 a8 b0 b1 b2 b3 b4 b5 b6 b7 b8 yi
 go_wp2_with (go_at_call 207;refine(vc.out E wj.out.1).mono ?_;rintro e w7 ⟨rfl,tG⟩;have wk:=zH tG;have wl:=tG.2.heap yp.out (by omega);have ud:=tG.2.heap yq.out (by omega);have yr:=zH ud;obtain⟨⟨a0,a1,a2,a3,a4,a5,a6,a7,a8⟩,⟨b0,b1,b2,b3,b4,b5,b6,b7,b8⟩,zj⟩:=fe wl;obtain⟨⟨p0,p1,p2,p3,p4,p5,p6,p7,p8⟩,⟨q0,q1,q2,q3,q4,q5,q6,q7,q8⟩,zp⟩:=fe ud;clear tG wl ud)
 (try simp only[cQ,Exit.then]);refine dk (er (P:=am) rfl _ _ (N+1) 282 _ (0,0) _ rfl (kR yr.out) me rfl (by kernel_rfl)) rfl ?_;have hM:=wj.out.trans wk.out;have ue:=kS w7 (N+1) (Z U 8) (tt tj) (tm ⟨#[]⟩) (tm ⟨#[]⟩) (tn (tf ⟨Q,0,th⟩) 1 1) (tn th 0 0) (tn th 0 0) (Z U ln) (Z U cl);refine⟨⟨8,bG,⟨#[]⟩,tn (tf ⟨Q,0,th⟩) 1 1,ln,cl,[e]⟩,rfl,rfl,.inr ⟨Q,1,rfl,by omega, ?_⟩,hM.1.ext ue (by omega) (by have:=tS.out;omega),hM.2.trans ue (λk v=> .inr (by omega))⟩;exact ue.heap (wk.out.2.heap yk.out (by omega)) (by omega)
theorem uj {r lb cap:bj}{T:bp Tok}{i:bj}{t u x v z:Tok}(ln cl d:aw)(w:World)(h:Rd r lb cap T i w)(ht:T[i]?=tf t)(J:dD t Ca=ti)(hu:T[i+1]?=tf u)(uv:dD u eQ=ti)(ux:T[i+2]?=tf x)(vc:x.kind=1)(hv:T[i+3]?=tf v)(vd:dD v nG=ti)(hz:T[i+4]?=tf z)(hs:dD z dG=ti):
  fj am 261 #[tr (tf ⟨r,0,th⟩),tv #[Z U 0,tt tj,tm ⟨#[]⟩,tm ⟨#[]⟩,tn th 0 0,tn th 0 0,tn th 0 0,Z U ln,Z U cl],Z U d] w (iE r lb cap T w ⟨9,bG,x.text,[]⟩ (i+5)):=by
 obtain⟨N,g⟩:=zE w.heap.size;obtain⟨W1,y⟩:=zE ((w.alloc (tA #[Z U 0,tt tj,tm ⟨#[]⟩,tm ⟨#[]⟩,tn th 0 0,tn th 0 0,tn th 0 0,Z U ln,Z U cl] 282)).alloc (tA #[Z U 0,tt tj,tm ⟨#[]⟩,tm ⟨#[]⟩,tn th 0 0,tn th 0 0,tn th 0 0,Z U 0,Z U 0] 282));have tW:=vg y g;have vf:W1.heap.size=N+2:=by rw[<-y];simp[g]
 have vh:=vZ y g;have vm:=yo y g;have h1:=h.grow (by rw[g];exact tW);have vp:=zH (bE W1 h1 ht);have vq:cg (∀W,Rd r lb cap T (i+1) W->fj am 207 #[tr (tf ⟨r,0,th⟩),tm eQ] W λe w'=>e= tB (.tuple #[])/\bL r lb cap T (i+2) W w'):=λW j=>aY eQ W j hu uv;have vr:cg (∀W,Rd r lb cap T (i+3) W->fj am 207 #[tr (tf ⟨r,0,th⟩),tm nG] W λe w'=>e= tB (.tuple #[])/\bL r lb cap T (i+4) W w'):=λW j=>aY nG W j hv vd;have vt:cg (∀W,Rd r lb cap T (i+4) W->fj am 207 #[tr (tf ⟨r,0,th⟩),tm dG] W λe w'=>e= tB (.tuple #[])/\bL r lb cap T (i+5) W w'):=λW j=>aY dG W j hz hs;have xr:cg (∀W,Rd r lb cap T (i+2) W->fj am 208 #[tr (tf ⟨r,0,th⟩)] W λe w'=>e= tB (.tuple #[tm x.text,tv #[Z U x.ln,Z U x.cl]])/\bL r lb cap T (i+3) W w'):=λW j=>dU W j ux vc;unfold eQ at vq;unfold nG at vr;unfold dG at vt;obtain⟨ua,_⟩:=wN J;obtain⟨f,A⟩:=zE t.text;have hst:∀(w:World)(c:dl cw),c.size=5->(dd ⟨w.heap.size,0,th⟩ [Z U t.kind,tm f,Z U t.n,Z U t.ln,Z U t.cl] 0).run am (w.alloc (tA c 263))= .ok () (w.alloc (tA #[Z U t.kind,tm f,Z U t.n,Z U t.ln,Z U t.cl] 263)):=λw c hc=>
  cr (P:=am) w 263 c #[Z U t.kind,tm f,Z U t.n,Z U t.ln,Z U t.cl] (by show _=tf 5;kernel_rfl) hc (by simp[cn])
 have xt:=zH hst;simp only[Tok.cells,A] at vp;rw[A] at ua;have o:f.toList=[102,114,101,101]:=by rw[ua];exact rH [102,114,101,101]
 have x1:(f.toList==[105,102])=tj:=by rw[o];rfl
 have x2:(f.toList==[119,104,105,108,101])=tj:=by rw[o];rfl
 have x3:(f.toList==[98,114,101,97,107])=tj:=by rw[o];rfl
 have x4:(f.toList==[99,111,110,116,105,110,117,101])=tj:=by rw[o];rfl
 have x5:(f.toList==[114,101,116,117,114,110])=tj:=by rw[o];rfl
 have x6:(f.toList==[102,114,101,101])=ti:=by rw[o];rfl
 have zr:i<T.length:=(bo.1 ht).1;have hT:=h.short;have zs:r<N:=by rw[<-g];exact h.rlt
 have ub:cg (lb<N):=by unfold cg;rw[<-g];exact h.lt
 have xF:=zH y;have xT:=zH tW;have tG:=zH vf;have ya:=zH vh;have yb:=zH vm;have H1:=zH h1;clear h ht J hu uv ux vc hv vd hz hs y tW vf vh vm h1 ua A hst o;go_enter func261,ntmps261
 go_upto_region 2 with(go_at_call 170;rw[xF.out];refine vp.out.mono ?_;rintro e w2 ⟨rfl,vu⟩;have yd:=xt.out w2;have vx:=zH vu;clear vu)
 clear yd;obtain⟨G,hG⟩:=zE w2.heap.size;obtain⟨q,tM⟩:=zE (w2.alloc (tA #[Z U t.kind,tm f,Z U t.n,Z U t.ln,Z U t.cl] 263));rw[hG,tM];have K:=zD tM vx;have zv:N+2<=G:=by rw[<-hG,<-tG.out];exact vx.out.size
 have vy:q.heap[G]?=tf (tA #[Z U t.kind,tm f,Z U t.n,Z U t.ln,Z U t.cl] 263 (0,0)):=by rw[<-tM,<-hG];exact alloc_at _ _
 obtain⟨⟨g0,g1,g2,g3,g4⟩,_,An⟩:=eZ vy;have uc:=(K.block N (by have:=tG.out;omega)).trans ya.out;have we:=(K.block (N+1) (by have:=tG.out;omega)).trans yb.out;obtain⟨⟨a0,a1,a2,a3,a4,a5,a6,a7,a8⟩,⟨b0,b1,b2,b3,b4,b5,b6,b7,b8⟩,ye⟩:=fe uc;have h3:=H1.out.grow K;obtain⟨c0,c1,c3,f1,hr⟩:=h3.cells;have yi:=zH K;have yk:=zH uc;have yp:=zH we;have H3:=zH h3;clear hG tM K vy uc we h3
 go_upto_region 26 with(fail)
 obtain⟨R,tD⟩:=zE ((q.setCell ⟨r,1,th⟩ (Z U ((i:aw)+1))).setCell ⟨N,0,th⟩ (Z U 9));rw[tD];have wg:bL r lb cap T (i+1) w R:=by
  have a:bL r lb cap T (i+1) q (q.setCell ⟨r,1,th⟩ (Z U ((i:aw)+1))):=⟨H3.out.step,Ext.set1 q r 1 _⟩
  have A:Ext (·=N) (q.setCell ⟨r,1,th⟩ (Z U ((i:aw)+1))) R:=by rw[<-tD];exact aa (Ext.refl _ _) _
  have yq:aE w.heap.size w q:=by rw[g];exact xT.out.trans (yi.out.mono (by rw[tG.out];omega))
  exact⟨a.1.ext A (by omega) (by have:=ub.out;omega),(bL.grown yq a).2.trans A (λk J=> .inr (by omega))⟩
 have wj:R.heap[N]?=tf (tA #[Z U 9,tt tj,tm ⟨#[]⟩,tm ⟨#[]⟩,tn th 0 0,tn th 0 0,tn th 0 0,Z U ln,Z U cl] 282 (0,0)):=by
  rw[<-tD];exact bk _ N 0 _ _ _ ((cT _ _ _ N (by show N≠r;omega)).trans yk.out)
 have wk:R.heap[N+1]?=tf (tA #[Z U 0,tt tj,tm ⟨#[]⟩,tm ⟨#[]⟩,tn th 0 0,tn th 0 0,tn th 0 0,Z U 0,Z U 0] 282 (0,0)):=by
  rw[<-tD];exact(cT _ _ _ (N+1) (by show N+1≠N;omega)).trans ((cT _ _ _ (N+1) (by show N+1≠r;omega)).trans yp.out)
 have wl:=zH wg;have yr:=zH wj;have yv:=zH wk;clear tD wg wj wk a0 a1 a2 a3 a4 a5 a6 a7 a8 b0 b1 b2 b3 b4 b5 b6 b7 b8 c0 c1 c3 f1 hr g0 g1 g2 g3 g4 ye
 go_upto_region 27 with(go_at_call 207;refine(vq.out R wl.out.1).mono ?_;rintro e w5 ⟨rfl,ws⟩;have ud:=zH ws;clear ws)
 go_upto_region 28 with(go_at_call 208;refine(xr.out w5 ud.out.1).mono ?_;rintro e w6 ⟨rfl,ue⟩;have xf:=zH (ud.out.trans ue);have up:=(ud.out.trans ue).2.heap yr.out (by omega);have yy:=zH up;obtain⟨⟨a0,a1,a2,a3,a4,a5,a6,a7,a8⟩,⟨b0,b1,b2,b3,b4,b5,b6,b7,b8⟩,yW⟩:=fe up;clear ue up)
 obtain⟨W7,tP⟩:=zE (w6.setCell ⟨N,3,th⟩ (tm x.text));rw[tP];have tR:Ext (·=N) w6 W7:=by rw[<-tP];exact aa (Ext.refl _ _) _
 have tE:W7.heap[N]?=tf (tA #[Z U 9,tt tj,tm ⟨#[]⟩,tm x.text,tn th 0 0,tn th 0 0,tn th 0 0,Z U ln,Z U cl] 282 (0,0)):=by
  rw[<-tP];exact bk _ N 3 _ _ _ yy.out
 have E:=tR.heap (xf.out.2.heap yv.out (by omega)) (show¬N+1=N by omega);have ur:=wl.out.trans xf.out;have xj:bL r lb cap T (i+3) w W7:=⟨ur.1.ext tR (by omega) (by have:=ub.out;omega),ur.2.trans tR (λk J=> .inr (by omega))⟩
 have xl:=zH xj;have zc:=zH tE;have zd:=zH E;clear tP tR tE E ur xj a0 a1 a2 a3 a4 a5 a6 a7 a8 b0 b1 b2 b3 b4 b5 b6 b7 b8 yW
 go_upto_region 34 with(go_at_call 207;refine(vr.out W7 xl.out.1).mono ?_;rintro e w8 ⟨rfl,xo⟩;have tS:=zH xo;clear xo)
 go_wp2_with (go_at_call 207;refine(vt.out w8 tS.out.1).mono ?_;rintro e w9 ⟨rfl,tU⟩;have zj:=zH (tS.out.trans tU);have tE:=(tS.out.trans tU).2.heap zc.out (by omega);have E:=(tS.out.trans tU).2.heap zd.out (by omega);have zp:=zH E;obtain⟨⟨a0,a1,a2,a3,a4,a5,a6,a7,a8⟩,⟨b0,b1,b2,b3,b4,b5,b6,b7,b8⟩,At⟩:=fe tE;obtain⟨⟨p0,p1,p2,p3,p4,p5,p6,p7,p8⟩,⟨q0,q1,q2,q3,q4,q5,q6,q7,q8⟩,Ax⟩:=fe E;clear tU tE E)
 (try simp only[cQ,Exit.then]);refine dk (er (P:=am) rfl _ _ (N+1) 282 _ (0,0) _ rfl (kR zp.out) me rfl (by kernel_rfl)) rfl ?_;have hM:=xl.out.trans zj.out;have xp:=kS w9 (N+1) (Z U 9) (tt tj) (tm ⟨#[]⟩) (tm x.text) (tn th 0 0) (tn th 0 0) (tn th 0 0) (Z U ln) (Z U cl);exact⟨⟨9,bG,x.text,tn th 0 0,ln,cl,[]⟩,rfl,rfl,.inl ⟨rfl,rfl⟩,hM.1.ext xp (by omega) (by have:=ub.out;omega),hM.2.trans xp (λk J=> .inr (by omega))⟩
def j3:bp bl:=[⟨#[105,102]⟩,⟨#[119,104,105,108,101]⟩,⟨#[98,114,101,97,107]⟩,⟨#[99,111,110,116,105,110,117,101]⟩,⟨#[114,101,116,117,114,110]⟩,⟨#[102,114,101,101]⟩,⟨#[112,117,116]⟩]
theorem vB {t:Tok}{s:bl}{l:bp bl}(h:dD t s=ti)(d:s∈l):l8 t l=ti:=by
 unfold l8;rw[js];exact⟨s,d,h⟩
theorem Sm.inn.slice {B:bj}{w:World}{s:Sm}(h:s.inn B w):∃ao n c,s.E= tn ao n c:=by
 rcases h with h|⟨g,cap,d,_⟩
 ·exact⟨_,_,_,h.2⟩
 ·exact⟨_,_,_,d⟩
theorem AL {r lb cap:bj}{T:bp Tok}{i:bj}{k:bj}{t z:Tok}{e:Ex}(d:aw)(w:World)(h:Rd r lb cap T i w)(o:T[i]?=tf t)(E:dD t qR=ti)(hl:eT T (i+1) e k)(hz:T[k]?=tf z)(hs:dD z dG=ti):
  fj am 243 #[tr (tf ⟨r,0,th⟩),Z U d] w (iE r lb cap T w ⟨8,bG,⟨#[]⟩,[e]⟩ (k+1)):=by
 obtain⟨N,f⟩:=zE w.heap.size;obtain⟨W1,q⟩:=zE (w.alloc (tA #[Z U 0,tt tj,tm ⟨#[]⟩,tm ⟨#[]⟩,tn th 0 0,tn th 0 0,tn th 0 0,Z U 0,Z U 0] 282));have tD:=ik q f;have up:W1.heap.size=N+1:=by rw[<-q];simp[f]
 have ur:W1.heap[N]?=tf (tA #[Z U 0,tt tj,tm ⟨#[]⟩,tm ⟨#[]⟩,tn th 0 0,tn th 0 0,tn th 0 0,Z U 0,Z U 0] 282 (0,0)):=by rw[<-q,<-f];exact alloc_at _ _
 have g:=h.grow (by rw[f];exact tD);have tE:=zH (bE W1 g o);have uv:cg (∀W,aE W1.heap.size W1 W->zS 171 #[tr (tf ⟨r,0,th⟩)] W (tt tj)):=λW u=>bB W (g.grow u);have tG:cg (∀(b:bj) W,aE W1.heap.size W1 W->b<W.heap.size->W.heap[b]?=tf (tA #[tm ⟨#[105,102]⟩,tm ⟨#[119,104,105,108,101]⟩,tm ⟨#[98,114,101,97,107]⟩,tm ⟨#[99,111,110,116,105,110,117,101]⟩,tm ⟨#[114,101,116,117,114,110]⟩,tm ⟨#[102,114,101,101]⟩,tm ⟨#[112,117,116]⟩] 9 (0,0))->zP 260 #[tr (tf ⟨r,0,th⟩),tn (tf ⟨b,0,th⟩) 7 7] W (tt (l8 t j3))):=λb W u hb hr=>gP b 7 j3 W (g.grow u) o (by decide) hb (iM hr rfl);rw[vB E (show qR∈j3 by decide)] at tG;have ws:cg (∀W,Rd r lb cap T i W->fj am 261 #[tr (tf ⟨r,0,th⟩),tv #[Z U 0,tt tj,tm ⟨#[]⟩,tm ⟨#[]⟩,tn th 0 0,tn th 0 0,tn th 0 0,Z U t.ln,Z U t.cl],Z U d] W (iE r lb cap T W ⟨8,bG,⟨#[]⟩,[e]⟩ (k+1))):=λW u=>wO _ _ d W u o E hl hz hs;simp only[Tok.cells] at tE;have hst:∀(w:World)(c:dl cw),c.size=5->(dd ⟨w.heap.size,0,th⟩ [Z U t.kind,tm t.text,Z U t.n,Z U t.ln,Z U t.cl] 0).run am (w.alloc (tA c 263))= .ok () (w.alloc (tA #[Z U t.kind,tm t.text,Z U t.n,Z U t.ln,Z U t.cl] 263)):=λw c hc=>
  cr (P:=am) w 263 c #[Z U t.kind,tm t.text,Z U t.n,Z U t.ln,Z U t.cl] (by show _=tf 5;kernel_rfl) hc (by simp[cn])
 have ux:∀(w:World)(c:dl cw),c.size=9->(dd ⟨w.heap.size,0,th⟩ [Z U 0,tt tj,tm ⟨#[]⟩,tm ⟨#[]⟩,tn th 0 0,tn th 0 0,tn th 0 0,Z U t.ln,Z U t.cl] 0).run am (w.alloc (tA c 282))= .ok () (w.alloc (tA #[Z U 0,tt tj,tm ⟨#[]⟩,tm ⟨#[]⟩,tn th 0 0,tn th 0 0,tn th 0 0,Z U t.ln,Z U t.cl] 282)):=λw c hc=>
  cr (P:=am) w 282 c #[Z U 0,tt tj,tm ⟨#[]⟩,tm ⟨#[]⟩,tn th 0 0,tn th 0 0,tn th 0 0,Z U t.ln,Z U t.cl] (by show _=tf 9;kernel_rfl) hc (by simp[cn])
 have xf:=zH hst;have xj:=zH ux;have zc:i<T.length:=(bo.1 o).1;have hT:=h.short;have zd:r<N:=by rw[<-f];exact h.rlt
 have xl:cg (lb<N):=by unfold cg;rw[<-f];exact h.lt
 have xo:=zH q;have vc:=zH tD;have J:=zH up;have xp:=zH ur;have H1:=zH g;clear h o hst ux q tD up ur g E hl hz hs;go_enter func243,ntmps243
 go_upto_region 2 with(go_at_call 170;rw[xo.out];refine tE.out.mono ?_;rintro e w2 ⟨rfl,vd⟩;have xr:=xf.out w2;have vf:=zH vd;clear vd)
 clear xr;obtain⟨G,v⟩:=zE w2.heap.size;obtain⟨K,x⟩:=zE (w2.alloc (tA #[Z U t.kind,tm t.text,Z U t.n,Z U t.ln,Z U t.cl] 263));rw[v,x];have vh:=zD x vf;have tM:K.heap.size=G+1:=by rw[<-x,<-v];simp
 have zj:N+1<=G:=by rw[<-v,<-J.out];exact vf.out.size
 have tP:K.heap[G]?=tf (tA #[Z U t.kind,tm t.text,Z U t.n,Z U t.ln,Z U t.cl] 263 (0,0)):=by rw[<-x,<-v];exact alloc_at _ _
 obtain⟨⟨g0,g1,g2,g3,g4⟩,_,zp⟩:=eZ tP;have vm:=xj.out K;have xt:=zH vh;have xF:=zH tP;clear v x vh tP;rw[tM] at vm
 go_upto_region 4 with(fail)
 clear vm;obtain⟨y,j⟩:=zE (K.alloc (tA #[Z U 0,tt tj,tm ⟨#[]⟩,tm ⟨#[]⟩,tn th 0 0,tn th 0 0,tn th 0 0,Z U t.ln,Z U t.cl] 282));rw[j];have A:=zD j xt;have xT:y.heap.size=G+2:=by rw[<-j];simp[tM]
 have vp:y.heap[G+1]?=tf (tA #[Z U 0,tt tj,tm ⟨#[]⟩,tm ⟨#[]⟩,tn th 0 0,tn th 0 0,tn th 0 0,Z U t.ln,Z U t.cl] 282 (0,0)):=by rw[<-j,<-tM];exact alloc_at _ _
 have vq:y.heap[G]?=tf (tA #[Z U t.kind,tm t.text,Z U t.n,Z U t.ln,Z U t.cl] 263 (0,0)):=by rw[<-j];exact(cE _ _ G (by omega)).trans xF.out
 have vr:=(A.block N (by have:=J.out;omega)).trans xp.out;obtain⟨W5,R⟩:=zE (y.alloc (tA #[tm ⟨#[105,102]⟩,tm ⟨#[119,104,105,108,101]⟩,tm ⟨#[98,114,101,97,107]⟩,tm ⟨#[99,111,110,116,105,110,117,101]⟩,tm ⟨#[114,101,116,117,114,110]⟩,tm ⟨#[102,114,101,101]⟩,tm ⟨#[112,117,116]⟩] 9));have tR:=gy R;have tS:=A.trans (tR.mono A.size);have tU:W5.heap[G+2]?=tf (tA #[tm ⟨#[105,102]⟩,tm ⟨#[119,104,105,108,101]⟩,tm ⟨#[98,114,101,97,107]⟩,tm ⟨#[99,111,110,116,105,110,117,101]⟩,tm ⟨#[114,101,116,117,114,110]⟩,tm ⟨#[102,114,101,101]⟩,tm ⟨#[112,117,116]⟩] 9 (0,0)):=by rw[<-R,<-xT];exact alloc_at _ _
 have ya:=zH (uv.out y A);have yb:=zH (tG.out (G+2) W5 tS (ae tU) tU);have yd:=zH R;have vt:=zH tR;have vu:=zH tS;have ye:=zH vp;have zr:=zH vq;have yi:=zH vr;clear j A vp vq vr R tR tS tU uv tE tG g0 g1 g2 g3 g4
 go_upto_region 7 with(first
  |(go_at_call 171;refine ya.out.mono ?_;rintro e w5 ⟨rfl,rfl⟩)
  |(go_at_call 260;(try rw[yd.out]);refine yb.out.mono ?_;rintro e w6 ⟨rfl,vx⟩;have vy:=zH vx;clear vx))
 have tW:=vt.out.trans (vy.out.mono vt.out.size);have ua:=vu.out.trans (vy.out.mono vu.out.size);have h6:=H1.out.grow ua;have we:=(tW.block (G+1) (by omega)).trans ye.out;have wg:=(tW.block N (by omega)).trans yi.out;obtain⟨⟨a0,a1,a2,a3,a4,a5,a6,a7,a8⟩,_,zs⟩:=fe we;have yk:=zH (ws.out w6 h6);have wj:=zH ua;have wk:=zH wg;clear tW ua h6 we wg
 go_wp2_with (go_at_call 261;refine yk.out.mono ?_;rintro e w7 ⟨s,rfl,wl,ub,uc⟩;obtain⟨yp,en,ec,hE⟩:=ub.slice;have HE:=zH hE;have yq:=zH wl;have yr:=zH ub;have yv:=zH uc;have ud:=uc.2.heap wk.out (by omega);have yy:=zH ud;obtain⟨⟨p0,p1,p2,p3,p4,p5,p6,p7,p8⟩,⟨q0,q1,q2,q3,q4,q5,q6,q7,q8⟩,zv⟩:=fe ud;unfold Sm.cells;rw[hE];clear wl ub uc ud hE)
 (try simp only[cQ,Exit.then]);refine dk (er (P:=am) rfl _ _ N 282 _ (0,0) _ rfl (kR yy.out) me rfl (by kernel_rfl)) rfl ?_;have ue:=kS w7 N (Z U s.kind) (tt s.ty.1) (tm s.ty.2) (tm s.nm) (tn yp en ec) (tn th 0 0) (tn th 0 0) (Z U s.ln) (Z U s.cl);have yW:w.heap.size<=w6.heap.size:=(vc.out.trans (wj.out.mono (by rw[J.out];omega))).size;have An:N<w6.heap.size:=ae wk.out;have hM:bL r lb cap T (k+1) w w7:=bL.grown (show aE w.heap.size w w6 by rw[f];exact vc.out.trans (wj.out.mono (by rw[J.out];omega))) yv.out;exact⟨s,by unfold Sm.cells;rw[HE.out],yq.out,(yr.out.ext ue (λk g h2 e=>by omega)).mono yW,hM.1.ext ue (by omega) (by have:=xl.out;omega),hM.2.trans ue (λk E=> .inr (by omega))⟩
theorem yF {r lb cap:bj}{T:bp Tok}{i:bj}{t u x v z:Tok}(d:aw)(w:World)(h:Rd r lb cap T i w)(o:T[i]?=tf t)(R:dD t Ca=ti)(hu:T[i+1]?=tf u)(uv:dD u eQ=ti)(ux:T[i+2]?=tf x)(vc:x.kind=1)(hv:T[i+3]?=tf v)(vd:dD v nG=ti)(hz:T[i+4]?=tf z)(hs:dD z dG=ti):
  fj am 243 #[tr (tf ⟨r,0,th⟩),Z U d] w (iE r lb cap T w ⟨9,bG,x.text,[]⟩ (i+5)):=by
 obtain⟨N,f⟩:=zE w.heap.size;obtain⟨W1,q⟩:=zE (w.alloc (tA #[Z U 0,tt tj,tm ⟨#[]⟩,tm ⟨#[]⟩,tn th 0 0,tn th 0 0,tn th 0 0,Z U 0,Z U 0] 282));have tG:=ik q f;have vf:W1.heap.size=N+1:=by rw[<-q];simp[f]
 have vh:W1.heap[N]?=tf (tA #[Z U 0,tt tj,tm ⟨#[]⟩,tm ⟨#[]⟩,tn th 0 0,tn th 0 0,tn th 0 0,Z U 0,Z U 0] 282 (0,0)):=by rw[<-q,<-f];exact alloc_at _ _
 have g:=h.grow (by rw[f];exact tG);have tM:=zH (bE W1 g o);have vm:cg (∀W,aE W1.heap.size W1 W->zS 171 #[tr (tf ⟨r,0,th⟩)] W (tt tj)):=λW y=>bB W (g.grow y);have tP:cg (∀(b:bj) W,aE W1.heap.size W1 W->b<W.heap.size->W.heap[b]?=tf (tA #[tm ⟨#[105,102]⟩,tm ⟨#[119,104,105,108,101]⟩,tm ⟨#[98,114,101,97,107]⟩,tm ⟨#[99,111,110,116,105,110,117,101]⟩,tm ⟨#[114,101,116,117,114,110]⟩,tm ⟨#[102,114,101,101]⟩,tm ⟨#[112,117,116]⟩] 9 (0,0))->zP 260 #[tr (tf ⟨r,0,th⟩),tn (tf ⟨b,0,th⟩) 7 7] W (tt (l8 t j3))):=λb W y hb hr=>gP b 7 j3 W (g.grow y) o (by decide) hb (iM hr rfl);rw[vB R (show Ca∈j3 by decide)] at tP;have xr:cg (∀W,Rd r lb cap T i W->fj am 261 #[tr (tf ⟨r,0,th⟩),tv #[Z U 0,tt tj,tm ⟨#[]⟩,tm ⟨#[]⟩,tn th 0 0,tn th 0 0,tn th 0 0,Z U t.ln,Z U t.cl],Z U d] W (iE r lb cap T W ⟨9,bG,x.text,[]⟩ (i+5))):=λW y=>uj _ _ d W y o R hu uv ux vc hv vd hz hs;simp only[Tok.cells] at tM;have hst:∀(w:World)(c:dl cw),c.size=5->(dd ⟨w.heap.size,0,th⟩ [Z U t.kind,tm t.text,Z U t.n,Z U t.ln,Z U t.cl] 0).run am (w.alloc (tA c 263))= .ok () (w.alloc (tA #[Z U t.kind,tm t.text,Z U t.n,Z U t.ln,Z U t.cl] 263)):=λw c hc=>
  cr (P:=am) w 263 c #[Z U t.kind,tm t.text,Z U t.n,Z U t.ln,Z U t.cl] (by show _=tf 5;kernel_rfl) hc (by simp[cn])
 have vp:∀(w:World)(c:dl cw),c.size=9->(dd ⟨w.heap.size,0,th⟩ [Z U 0,tt tj,tm ⟨#[]⟩,tm ⟨#[]⟩,tn th 0 0,tn th 0 0,tn th 0 0,Z U t.ln,Z U t.cl] 0).run am (w.alloc (tA c 282))= .ok () (w.alloc (tA #[Z U 0,tt tj,tm ⟨#[]⟩,tm ⟨#[]⟩,tn th 0 0,tn th 0 0,tn th 0 0,Z U t.ln,Z U t.cl] 282)):=λw c hc=>
  cr (P:=am) w 282 c #[Z U 0,tt tj,tm ⟨#[]⟩,tm ⟨#[]⟩,tn th 0 0,tn th 0 0,tn th 0 0,Z U t.ln,Z U t.cl] (by show _=tf 9;kernel_rfl) hc (by simp[cn])
 have xt:=zH hst;have xF:=zH vp;have zv:i<T.length:=(bo.1 o).1;have hT:=h.short;have An:r<N:=by rw[<-f];exact h.rlt
 have xT:cg (lb<N):=by unfold cg;rw[<-f];exact h.lt
 have ya:=zH q;have vq:=zH tG;have tD:=zH vf;have yb:=zH vh;have H1:=zH g;clear h o hst vp q tG vf vh g R hu uv ux vc hv vd hz hs;go_enter func243,ntmps243
 go_upto_region 2 with(go_at_call 170;rw[ya.out];refine tM.out.mono ?_;rintro e w2 ⟨rfl,vr⟩;have yd:=xt.out w2;have vt:=zH vr;clear vr)
 clear yd;obtain⟨G,A⟩:=zE w2.heap.size;obtain⟨W3,E⟩:=zE (w2.alloc (tA #[Z U t.kind,tm t.text,Z U t.n,Z U t.ln,Z U t.cl] 263));rw[A,E];have vu:=zD E vt;have tR:W3.heap.size=G+1:=by rw[<-E,<-A];simp
 have At:N+1<=G:=by rw[<-A,<-tD.out];exact vt.out.size
 have tS:W3.heap[G]?=tf (tA #[Z U t.kind,tm t.text,Z U t.n,Z U t.ln,Z U t.cl] 263 (0,0)):=by rw[<-E,<-A];exact alloc_at _ _
 obtain⟨⟨g0,g1,g2,g3,g4⟩,_,Ax⟩:=eZ tS;have vx:=xF.out W3;have ye:=zH vu;have yi:=zH tS;clear A E vu tS;rw[tR] at vx
 go_upto_region 4 with(fail)
 clear vx;obtain⟨J,j⟩:=zE (W3.alloc (tA #[Z U 0,tt tj,tm ⟨#[]⟩,tm ⟨#[]⟩,tn th 0 0,tn th 0 0,tn th 0 0,Z U t.ln,Z U t.cl] 282));rw[j];have K:=zD j ye;have yk:J.heap.size=G+2:=by rw[<-j];simp[tR]
 have vy:J.heap[G+1]?=tf (tA #[Z U 0,tt tj,tm ⟨#[]⟩,tm ⟨#[]⟩,tn th 0 0,tn th 0 0,tn th 0 0,Z U t.ln,Z U t.cl] 282 (0,0)):=by rw[<-j,<-tR];exact alloc_at _ _
 have we:J.heap[G]?=tf (tA #[Z U t.kind,tm t.text,Z U t.n,Z U t.ln,Z U t.cl] 263 (0,0)):=by rw[<-j];exact(cE _ _ G (by omega)).trans yi.out
 have wg:=(K.block N (by have:=tD.out;omega)).trans yb.out;obtain⟨W5,tE⟩:=zE (J.alloc (tA #[tm ⟨#[105,102]⟩,tm ⟨#[119,104,105,108,101]⟩,tm ⟨#[98,114,101,97,107]⟩,tm ⟨#[99,111,110,116,105,110,117,101]⟩,tm ⟨#[114,101,116,117,114,110]⟩,tm ⟨#[102,114,101,101]⟩,tm ⟨#[112,117,116]⟩] 9));have tU:=gy tE;have tW:=K.trans (tU.mono K.size);have ua:W5.heap[G+2]?=tf (tA #[tm ⟨#[105,102]⟩,tm ⟨#[119,104,105,108,101]⟩,tm ⟨#[98,114,101,97,107]⟩,tm ⟨#[99,111,110,116,105,110,117,101]⟩,tm ⟨#[114,101,116,117,114,110]⟩,tm ⟨#[102,114,101,101]⟩,tm ⟨#[112,117,116]⟩] 9 (0,0)):=by rw[<-tE,<-yk];exact alloc_at _ _
 have yp:=zH (vm.out J K);have yq:=zH (tP.out (G+2) W5 tW (ae ua) ua);have yr:=zH tE;have wj:=zH tU;have wk:=zH tW;have yv:=zH vy;have AD:=zH we;have yy:=zH wg;clear j K vy we wg tE tU tW ua vm tM tP g0 g1 g2 g3 g4
 go_upto_region 7 with(first
  |(go_at_call 171;refine yp.out.mono ?_;rintro e w5 ⟨rfl,rfl⟩)
  |(go_at_call 260;(try rw[yr.out]);refine yq.out.mono ?_;rintro e w6 ⟨rfl,wl⟩;have ws:=zH wl;clear wl))
 have ub:=wj.out.trans (ws.out.mono wj.out.size);have uc:=wk.out.trans (ws.out.mono wk.out.size);have h6:=H1.out.grow uc;have xf:=(ub.block (G+1) (by omega)).trans yv.out;have xj:=(ub.block N (by omega)).trans yy.out;obtain⟨⟨a0,a1,a2,a3,a4,a5,a6,a7,a8⟩,_,AE⟩:=fe xf;have yW:=zH (xr.out w6 h6);have xl:=zH uc;have xo:=zH xj;clear ub uc h6 xf xj
 go_wp2_with (go_at_call 261;refine yW.out.mono ?_;rintro e w7 ⟨s,rfl,xp,ud,ue⟩;obtain⟨zc,en,ec,hE⟩:=ud.slice;have HE:=zH hE;have zd:=zH xp;have zj:=zH ud;have zp:=zH ue;have up:=ue.2.heap xo.out (by omega);have zr:=zH up;obtain⟨⟨p0,p1,p2,p3,p4,p5,p6,p7,p8⟩,⟨q0,q1,q2,q3,q4,q5,q6,q7,q8⟩,AF⟩:=fe up;unfold Sm.cells;rw[hE];clear xp ud ue up hE)
 (try simp only[cQ,Exit.then]);refine dk (er (P:=am) rfl _ _ N 282 _ (0,0) _ rfl (kR zr.out) me rfl (by kernel_rfl)) rfl ?_;have ur:=kS w7 N (Z U s.kind) (tt s.ty.1) (tm s.ty.2) (tm s.nm) (tn zc en ec) (tn th 0 0) (tn th 0 0) (Z U s.ln) (Z U s.cl);have zs:w.heap.size<=w6.heap.size:=(vq.out.trans (xl.out.mono (by rw[tD.out];omega))).size;have AH:N<w6.heap.size:=ae xo.out;have hM:bL r lb cap T (i+5) w w7:=bL.grown (show aE w.heap.size w w6 by rw[f];exact vq.out.trans (xl.out.mono (by rw[tD.out];omega))) zp.out;exact⟨s,by unfold Sm.cells;rw[HE.out],zd.out,(zj.out.ext ur (λk g h2 e=>by omega)).mono zs,hM.1.ext ur (by omega) (by have:=xT.out;omega),hM.2.trans ur (λk R=> .inr (by omega))⟩
theorem yG {r lb cap:bj}{T:bp Tok}{i:bj}{k:bj}{t u x v z:Tok}{e:Ex}(d:aw)(w:World)(h:Rd r lb cap T i w)(ht:T[i]?=tf t)(g:t.kind=1)(hu:T[i+1]?=tf u)(vr:dD u jJ=ti)(yi:u.kind=4)(yk:T[i+2]?=tf x)(yp:x.kind=1)(hv:T[i+3]?=tf v)(yq:dD v Gx=ti)(hl:eT T (i+4) e k)(hz:T[k]?=tf z)(hs:dD z dG=ti):
  fj am 243 #[tr (tf ⟨r,0,th⟩),Z U d] w (iE r lb cap T w ⟨1,(ti,t.text),x.text,[e]⟩ (k+1)):=by
 obtain⟨N,hN⟩:=zE w.heap.size;obtain⟨W1,tE⟩:=zE (w.alloc (tA #[Z U 0,tt tj,tm ⟨#[]⟩,tm ⟨#[]⟩,tn th 0 0,tn th 0 0,tn th 0 0,Z U 0,Z U 0] 282));have vt:=ik tE hN;have yr:W1.heap.size=N+1:=by rw[<-tE];simp[hN]
 have yv:W1.heap[N]?=tf (tA #[Z U 0,tt tj,tm ⟨#[]⟩,tm ⟨#[]⟩,tn th 0 0,tn th 0 0,tn th 0 0,Z U 0,Z U 0] 282 (0,0)):=by rw[<-tE,<-hN];exact alloc_at _ _
 have h1:=h.grow (by rw[hN];exact vt);have vu:=zH (bE W1 h1 ht);have yy:cg (∀W,aE W1.heap.size W1 W->zS 171 #[tr (tf ⟨r,0,th⟩)] W (tt tj)):=λW f=>bB W (h1.grow f);have vx:cg (∀(b:bj) W,aE W1.heap.size W1 W->b<W.heap.size->W.heap[b]?=tf (tA #[tm ⟨#[105,102]⟩,tm ⟨#[119,104,105,108,101]⟩,tm ⟨#[98,114,101,97,107]⟩,tm ⟨#[99,111,110,116,105,110,117,101]⟩,tm ⟨#[114,101,116,117,114,110]⟩,tm ⟨#[102,114,101,101]⟩,tm ⟨#[112,117,116]⟩] 9 (0,0))->zP 260 #[tr (tf ⟨r,0,th⟩),tn (tf ⟨b,0,th⟩) 7 7] W (tt (l8 t j3))):=λb W f hb hr=>gP b 7 j3 W (h1.grow f) ht (by decide) hb (iM hr rfl);rw[oL (by omega) (by omega) j3] at vx;have tW:cg (∀W,aE W1.heap.size W1 W->zP 172 #[tr (tf ⟨r,0,th⟩),tm wI] W (tt (dD t wI))):=λW f=>bi _ W (h1.grow f) ht;rw[lH g] at tW;unfold wI at tW;have vy:cg (∀W,aE W1.heap.size W1 W->zP 262 #[tr (tf ⟨r,0,th⟩)] W (tt (u.text==jJ))):=λW f=>wJ W (h1.grow f) hu yi;rw[show(u.text==jJ)=ti from sR.2 (wN vr).1] at vy;have CN:cg (∀W,Rd r lb cap T i W->fj am 209 #[tr (tf ⟨r,0,th⟩)] W λe w'=>e= tB (tv #[tt ti,tm t.text])/\bL r lb cap T (i+2) W w'):=λW f=>vw W f ht g hu vr;have CT:cg (∀W,Rd r lb cap T (i+2) W->fj am 208 #[tr (tf ⟨r,0,th⟩)] W λe w'=>e= tB (.tuple #[tm x.text,tv #[Z U x.ln,Z U x.cl]])/\bL r lb cap T (i+3) W w'):=λW f=>dU W f yk yp;have yW:cg (∀W,Rd r lb cap T (i+3) W->fj am 207 #[tr (tf ⟨r,0,th⟩),tm Gx] W λe w'=>e= tB (.tuple #[])/\bL r lb cap T (i+4) W w'):=λW f=>aY Gx W f hv yq;have zc:cg (∀W,Rd r lb cap T k W->fj am 207 #[tr (tf ⟨r,0,th⟩),tm dG] W λe w'=>e= tB (.tuple #[])/\bL r lb cap T (k+1) W w'):=λW f=>aY dG W f hz hs;unfold Gx at yW;unfold dG at zc;have we:∀W,Rd r lb cap T (i+4) W->fj am 263 #[tr (tf ⟨r,0,th⟩),Z U d] W λen w'=>en= tB (tv e.cells)/\bL r lb cap T k W w':=λW f=>nE d W f hl hz hs;unfold Ex.cells at we;have C4:=zH we;clear we;simp only[Tok.cells,g] at vu;have hst:∀(w:World)(c:dl cw),c.size=5->(dd ⟨w.heap.size,0,th⟩ [Z U 1,tm t.text,Z U t.n,Z U t.ln,Z U t.cl] 0).run am (w.alloc (tA c 263))= .ok () (w.alloc (tA #[Z U 1,tm t.text,Z U t.n,Z U t.ln,Z U t.cl] 263)):=λw c hc=>
  cr (P:=am) w 263 c #[Z U 1,tm t.text,Z U t.n,Z U t.ln,Z U t.cl] (by show _=tf 5;kernel_rfl) hc (by simp[cn])
 have zd:∀(w:World)(c:dl cw),c.size=9->(dd ⟨w.heap.size,0,th⟩ [Z U 0,tt tj,tm ⟨#[]⟩,tm ⟨#[]⟩,tn th 0 0,tn th 0 0,tn th 0 0,Z U t.ln,Z U t.cl] 0).run am (w.alloc (tA c 282))= .ok () (w.alloc (tA #[Z U 0,tt tj,tm ⟨#[]⟩,tm ⟨#[]⟩,tn th 0 0,tn th 0 0,tn th 0 0,Z U t.ln,Z U t.cl] 282)):=λw c hc=>
  cr (P:=am) w 282 c #[Z U 0,tt tj,tm ⟨#[]⟩,tm ⟨#[]⟩,tn th 0 0,tn th 0 0,tn th 0 0,Z U t.ln,Z U t.cl] (by show _=tf 9;kernel_rfl) hc (by simp[cn])
 have C5:=zH hst;have C6:=zH zd;have GB:i<T.length:=(bo.1 ht).1;have hT:=h.short;have GC:r<N:=by rw[<-hN];exact h.rlt
 have tG:cg (lb<N):=by unfold cg;rw[<-hN];exact h.lt
 have C7:=zH tE;have Dd:=zH vt;have wg:=zH yr;have Dg:=zH yv;have H1:=zH h1;clear h ht hst zd tE vt yr yv h1 g hu vr yi yk yp hv yq hl hz hs;go_enter func243,ntmps243
 go_upto_region 2 with(go_at_call 170;rw[C7.out];refine vu.out.mono ?_;rintro e w2 ⟨rfl,zj⟩;have Do:=C5.out w2;have zp:=zH zj;clear zj)
 clear Do;obtain⟨G,hG⟩:=zE w2.heap.size;obtain⟨W3,tM⟩:=zE (w2.alloc (tA #[Z U 1,tm t.text,Z U t.n,Z U t.ln,Z U t.cl] 263));rw[hG,tM];have zr:=zD tM zp;have wj:W3.heap.size=G+1:=by rw[<-tM,<-hG];simp
 have GE:N+1<=G:=by rw[<-hG,<-wg.out];exact zp.out.size
 have wk:W3.heap[G]?=tf (tA #[Z U 1,tm t.text,Z U t.n,Z U t.ln,Z U t.cl] 263 (0,0)):=by rw[<-tM,<-hG];exact alloc_at _ _
 obtain⟨⟨g0,g1,g2,g3,g4⟩,_,GF⟩:=eZ wk;have zs:=C6.out W3;have Ds:=zH zr;have DA:=zH wk;clear hG tM zr wk;rw[wj] at zs
 go_upto_region 4 with(fail)
 clear zs;obtain⟨W4,tD⟩:=zE (W3.alloc (tA #[Z U 0,tt tj,tm ⟨#[]⟩,tm ⟨#[]⟩,tn th 0 0,tn th 0 0,tn th 0 0,Z U t.ln,Z U t.cl] 282));rw[tD];have tP:=zD tD Ds;have DB:W4.heap.size=G+2:=by rw[<-tD];simp[wj]
 have zv:W4.heap[G+1]?=tf (tA #[Z U 0,tt tj,tm ⟨#[]⟩,tm ⟨#[]⟩,tn th 0 0,tn th 0 0,tn th 0 0,Z U t.ln,Z U t.cl] 282 (0,0)):=by rw[<-tD,<-wj];exact alloc_at _ _
 have An:W4.heap[G]?=tf (tA #[Z U 1,tm t.text,Z U t.n,Z U t.ln,Z U t.cl] 263 (0,0)):=by rw[<-tD];exact(cE _ _ G (by omega)).trans DA.out
 have At:=(tP.block N (by have:=wg.out;omega)).trans Dg.out;obtain⟨W5,ua⟩:=zE (W4.alloc (tA #[tm ⟨#[105,102]⟩,tm ⟨#[119,104,105,108,101]⟩,tm ⟨#[98,114,101,97,107]⟩,tm ⟨#[99,111,110,116,105,110,117,101]⟩,tm ⟨#[114,101,116,117,114,110]⟩,tm ⟨#[102,114,101,101]⟩,tm ⟨#[112,117,116]⟩] 9));have wl:=gy ua;have ws:=tP.trans (wl.mono tP.size);have xf:W5.heap[G+2]?=tf (tA #[tm ⟨#[105,102]⟩,tm ⟨#[119,104,105,108,101]⟩,tm ⟨#[98,114,101,97,107]⟩,tm ⟨#[99,111,110,116,105,110,117,101]⟩,tm ⟨#[114,101,116,117,114,110]⟩,tm ⟨#[102,114,101,101]⟩,tm ⟨#[112,117,116]⟩] 9 (0,0)):=by rw[<-ua,<-DB];exact alloc_at _ _
 have DE:=zH (yy.out W4 tP);have DG:=zH (vx.out (G+2) W5 ws (ae xf) xf);have DH:=zH ua;have Ax:=zH wl;have AD:=zH ws;have DM:=zH zv;have DO:=zH An;have DP:=zH At;clear tD tP zv An At ua wl ws xf yy vu vx g0 g1 g2 g3 g4
 go_upto_region 8 with(first
  |(go_at_call 171;refine DE.out.mono ?_;rintro e w5 ⟨rfl,rfl⟩)
  |(go_at_call 260;(try rw[DH.out]);refine DG.out.mono ?_;rintro e w6 ⟨rfl,AE⟩;have AF:=zH AE;clear AE))
 have ub:=Ax.out.trans (AF.out.mono Ax.out.size);have tR:=AD.out.trans (AF.out.mono AD.out.size);have xj:=(ub.block (G+1) (by omega)).trans DM.out;have AH:=(ub.block G (by omega)).trans DO.out;have AI:=(ub.block N (by omega)).trans DP.out;have DQ:=zH (tW.out w6 tR);have DS:=zH (λW (hb:aE w6.heap.size w6 W)=>vy.out W (tR.trans (hb.mono tR.size)));have AK:=zH tR;have D0:=zH xj;have D1:=zH AH;have D3:=zH AI;have GO:G+1<w6.heap.size:=ae xj;clear ub tR xj AH AI vy tW
 go_upto_region 9 with(first
  |(go_at_call 172;refine DQ.out.mono ?_;rintro e w7 ⟨rfl,xl⟩;have xo:=zH xl;obtain⟨⟨g0,g1,g2,g3,g4⟩,_,D4⟩:=eZ ((xl.block G (by omega)).trans D1.out);clear xl)
  |(go_at_call 262;refine(DS.out w7 xo.out).mono ?_;rintro e w8 ⟨rfl,AM⟩;have xp:=zH (xo.out.trans (AM.mono xo.out.size));clear AM))
 have xr:=AK.out.trans (xp.out.mono AK.out.size);have h8:=H1.out.grow xr;have xt:=(xp.out.block (G+1) (by omega)).trans D0.out;have AN:=(xp.out.block N (by omega)).trans D3.out;obtain⟨⟨j,o,q,y,A,E,J,K,R⟩,⟨b0,b1,b2,b3,b4,b5,b6,b7,b8⟩,Ek⟩:=fe xt;have H8:=zH h8;have EV:=zH xr;have E0:=zH xt;have E1:=zH AN;clear xr h8 xt AN g0 g1 g2 g3 g4 D4
 go_upto_region 10 with(fail)
 obtain⟨W9,uc⟩:=zE (w8.setCell ⟨G+1,0,th⟩ (Z U 1));rw[uc];have ud:Ext (·=G+1) w8 W9:=by rw[<-uc];exact aa (Ext.refl _ _) _
 have h9:=H8.out.ext ud (by omega) (by have:=tG.out;omega);have AS:bL r lb cap T i w W9:=⟨h9,((Ext.of_below_size (M:=(·=r)) (show aE w.heap.size w w8 by rw[hN];exact Dd.out.trans (EV.out.mono (by rw[wg.out];omega))))).trans ud (λk g=> .inr (by omega))⟩
 have AT:W9.heap[G+1]?=tf (tA #[Z U 1,tt tj,tm ⟨#[]⟩,tm ⟨#[]⟩,tn th 0 0,tn th 0 0,tn th 0 0,Z U t.ln,Z U t.cl] 282 (0,0)):=by rw[<-uc];exact bk _ (G+1) 0 _ _ _ E0.out
 have AW:=ud.heap E1.out (by omega);have A1:=zH AS;have E2:=zH AT;have E3:=zH AW;clear uc ud h9 AS AT AW j o q y A E J K R b0 b1 b2 b3 b4 b5 b6 b7 b8 Ek
 go_upto_region 11 with(go_at_call 209;refine(CN.out W9 A1.out.1).mono ?_;rintro e A2 ⟨rfl,ue⟩;have A3:=zH (A1.out.trans ue);have xF:=ue.2.heap E2.out (by omega);have A4:=ue.2.heap E3.out (by omega);have E4:=zH xF;have E6:=zH A4;obtain⟨⟨j,o,q,y,A,E,J,K,R⟩,⟨b0,b1,b2,b3,b4,b5,b6,b7,b8⟩,E7⟩:=fe xF;clear ue xF A4)
 obtain⟨up,ur⟩:=zE ((A2.setCell ⟨G+1,1,th⟩ (tt ti)).setCell ⟨G+1,2,th⟩ (tm t.text));rw[ur];have uv:Ext (·=G+1) A2 up:=by rw[<-ur];exact aa (aa (Ext.refl _ _) _) _
 have A5:bL r lb cap T (i+2) w up:=⟨A3.out.1.ext uv (by omega) (by have:=tG.out;omega),A3.out.2.trans uv (λk g=> .inr (by omega))⟩
 have A6:up.heap[G+1]?=tf (tA #[Z U 1,tt ti,tm t.text,tm ⟨#[]⟩,tn th 0 0,tn th 0 0,tn th 0 0,Z U t.ln,Z U t.cl] 282 (0,0)):=by rw[<-ur];exact bk _ (G+1) 2 _ _ _ (bk _ (G+1) 1 _ _ _ E4.out)
 have Bk:=uv.heap E6.out (by omega);have Bm:=zH A5;have Fc:=zH A6;have Fi:=zH Bk;clear ur uv A5 A6 Bk j o q y A E J K R b0 b1 b2 b3 b4 b5 b6 b7 b8 E7
 go_upto_region 12 with(go_at_call 208;refine(CT.out up Bm.out.1).mono ?_;rintro e Bs ⟨rfl,ux⟩;have By:=zH (Bm.out.trans ux);have xT:=ux.2.heap Fc.out (by omega);have BE:=ux.2.heap Fi.out (by omega);have Fk:=zH xT;have Fl:=zH BE;obtain⟨⟨j,o,q,y,A,E,J,K,R⟩,⟨b0,b1,b2,b3,b4,b5,b6,b7,b8⟩,Fm⟩:=fe xT;clear ux xT BE)
 obtain⟨vc,vd⟩:=zE (Bs.setCell ⟨G+1,3,th⟩ (tm x.text));rw[vd];have vf:Ext (·=G+1) Bs vc:=by rw[<-vd];exact aa (Ext.refl _ _) _
 have BT:bL r lb cap T (i+3) w vc:=⟨By.out.1.ext vf (by omega) (by have:=tG.out;omega),By.out.2.trans vf (λk g=> .inr (by omega))⟩
 have BY:vc.heap[G+1]?=tf (tA #[Z U 1,tt ti,tm t.text,tm x.text,tn th 0 0,tn th 0 0,tn th 0 0,Z U t.ln,Z U t.cl] 282 (0,0)):=by rw[<-vd];exact bk _ (G+1) 3 _ _ _ Fk.out
 have B4:=vf.heap Fl.out (by omega);have B5:=zH BT;have Fo:=zH BY;have Fr:=zH B4;clear vd vf BT BY B4 j o q y A E J K R b0 b1 b2 b3 b4 b5 b6 b7 b8 Fm
 go_upto_region 13 with(go_at_call 207;refine(yW.out vc B5.out.1).mono ?_;rintro e Ft ⟨rfl,ya⟩;have B6:=zH (B5.out.trans ya);have B7:=zH ya.2;clear ya)
 go_upto_region 16 with(go_at_call 263;refine(C4.out Ft B6.out.1).mono ?_;rintro e vh ⟨rfl,vm⟩;have B8:=zH (B6.out.trans vm);have yb:=vm.2.heap (B7.out.heap Fo.out (by omega)) (by omega);have B9:=vm.2.heap (B7.out.heap Fr.out (by omega)) (by omega);have FA:=zH yb;have FF:=zH B9;obtain⟨⟨j,o,q,y,A,E,J,K,R⟩,⟨b0,b1,b2,b3,b4,b5,b6,b7,b8⟩,Cd⟩:=fe yb;clear vm yb B9)
 obtain⟨Q,hQ⟩:=zE vh.heap.size;rw[hQ];obtain⟨tS,tU⟩:=zE ((vh.setCell ⟨G+1,4,th⟩ (tn (tf ⟨Q,0,th⟩) 1 1)).alloc (tA #[Z U e.kind,Z U e.n,tm e.nm,tm ⟨#[]⟩,tn th 0 0,Z U e.ln,Z U e.cl] 313));rw[tU];have vp:Ext (·=G+1) vh tS:=by rw[<-tU];exact(aa (Ext.refl _ _) _).alloc _
 have GP:G+1<Q:=by rw[<-hQ];exact Cd
 have Cl:tS.heap[Q]?=tf (tA #[Z U e.kind,Z U e.n,tm e.nm,tm ⟨#[]⟩,tn th 0 0,Z U e.ln,Z U e.cl] 313 (0,0)):=by
  have:=alloc_at (vh.setCell ⟨G+1,4,th⟩ (tn (tf ⟨Q,0,th⟩) 1 1)) (tA #[Z U e.kind,Z U e.n,tm e.nm,tm ⟨#[]⟩,tn th 0 0,Z U e.ln,Z U e.cl] 313);rw[World.size_setCell,hQ,tU] at this;exact this
 have Cp:tS.heap[G+1]?=tf (tA #[Z U 1,tt ti,tm t.text,tm x.text,tn (tf ⟨Q,0,th⟩) 1 1,tn th 0 0,tn th 0 0,Z U t.ln,Z U t.cl] 282 (0,0)):=by
  rw[<-tU];exact(cE _ _ (G+1) (by rw[World.size_setCell];omega)).trans (bk _ (G+1) 4 _ _ _ FA.out)
 have CA:=vp.heap FF.out (by omega);have CC:bL r lb cap T k w tS:=⟨B8.out.1.ext vp (by omega) (by have:=tG.out;omega),B8.out.2.trans vp (λk g=> .inr (by omega))⟩
 have CD:=zH CC;have FG:=zH Cl;have F0:=zH Cp;have F1:=zH CA;clear hQ tU vp Cl Cp CA CC j o q y A E J K R b0 b1 b2 b3 b4 b5 b6 b7 b8 Cd
 go_wp2_with (go_at_call 207;refine(zc.out tS CD.out.1).mono ?_;rintro e Ge ⟨rfl,vq⟩;have CH:=zH vq;have CM:=vq.2.heap F0.out (by omega);have yd:=vq.2.heap F1.out (by omega);have Gk:=zH yd;obtain⟨⟨j,o,q,y,A,E,J,K,R⟩,⟨b0,b1,b2,b3,b4,b5,b6,b7,b8⟩,GS⟩:=fe CM;obtain⟨⟨p0,p1,p2,p3,p4,p5,p6,p7,p8⟩,⟨q0,q1,q2,q3,q4,q5,q6,q7,q8⟩,GT⟩:=fe yd;clear vq CM yd)
 (try simp only[cQ,Exit.then]);refine dk (er (P:=am) rfl _ _ N 282 _ (0,0) _ rfl (kR Gk.out) me rfl (by kernel_rfl)) rfl ?_;have hM:=CD.out.trans CH.out;have ye:=kS Ge N (Z U 1) (tt ti) (tm t.text) (tm x.text) (tn (tf ⟨Q,0,th⟩) 1 1) (tn th 0 0) (tn th 0 0) (Z U t.ln) (Z U t.cl);refine⟨⟨1,(ti,t.text),x.text,tn (tf ⟨Q,0,th⟩) 1 1,t.ln,t.cl,[e]⟩,rfl,rfl,.inr ⟨Q,1,rfl,by omega, ?_⟩,hM.1.ext ye (by omega) (by have:=tG.out;omega),hM.2.trans ye (λk g=> .inr (by omega))⟩;exact ye.heap (CH.out.2.heap FG.out (by omega)) (by omega)
end Go.Proofs.YtjomgckjhcfbgaaGreat
