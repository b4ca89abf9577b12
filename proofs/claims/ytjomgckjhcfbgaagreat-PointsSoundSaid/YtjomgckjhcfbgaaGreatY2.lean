/- Walks. -/
import Derived.Test.YtjomgckjhcfbgaaGreatY1
set_option maxRecDepth 100000
set_option maxHeartbeats 64000000
set_option linter.all false
namespace Go.Proofs.YtjomgckjhcfbgaaGreat
open Go.RowKit
open Go.Proofs.Tryz renaming prog→ac,underlying313→i5,underlying282→mS
open _root_.List renaming getElem?_eq_some_iff→ap,any_eq_true→kq,any_eq_false→lz
open Go.RowKit.Below renaming refl→aq,heap_alloc→cn,heap_setCell→dl
open _root_ renaming ByteArray→aE,List→bm,Int→bp,Nat→bx,Array→da,beq_eq_false_iff_ne→dp,beq_iff_eq→mN
open Go.RowKit renaming Below→bh,Hid→cm
open Go renaming heap_setCell_same→bk,cell_of_row→cc,Value→cd,run_storeCells_new→ct,storeCells→dr,bodyPost_ret→dv,results_cell_row→eI,Calls→gd,TypeId→gx
open _root_.Nat renaming le_refl→ce,le_trans→cY
open Go.Value renaming oneCell'→cj,string→fh,string→tM,slice→tP,pointer→tR,bool→tU,agg→tW,int→Z
open Go.Exit renaming inBlock→db
open _root_.Bool renaming and_eq_true→eN,or_eq_true→hU,true→tE,false→tG
open Go.ByteArray renaming toList_eq→pi
open _root_.Option renaming some→tB,none→tD
open Go.Obj renaming cells→ua
open Go.Ending renaming returned→ub
open Go.IntKind renaming i64→U
open Tryz
def fD:aE:=⟨#[40]⟩
def Ea:aE:=⟨#[110,117,108,108]⟩
def Eb:aE:=⟨#[110,101,119]⟩
theorem uN {r lb cap:bx}{T:bm Tok}{i:bx}{t:Tok}(d:bp)(w:World)(h:Rd r lb cap T i w)(ht:T[i]?=tB t)(v:t.kind=3):
  gd ac 278 #[tR (tB ⟨r,0,tD⟩),Z U d] w λe w'=>e= ub (tW (Ex.cells ⟨1,t.n,⟨#[]⟩,t.ln,t.cl⟩))/\bJ r lb cap T (i+1) w w':=by
 obtain⟨N,q⟩:=zE w.heap.size;obtain⟨W1,A⟩:=zE (w.alloc (ua #[Z U 0,Z U 0,tM ⟨#[]⟩,tM ⟨#[]⟩,tP tD 0 0,Z U 0,Z U 0] 313));have ur:=iV A q;have vm:W1.heap.size=N+1:=by rw[<-A];simp[q]
 have vp:W1.heap[N]?=tB (ua #[Z U 0,Z U 0,tM ⟨#[]⟩,tM ⟨#[]⟩,tP tD 0 0,Z U 0,Z U 0] 313 (0,0)):=by rw[<-A,<-q];exact alloc_at _ _
 have D:=h.grow (by rw[q];exact ur);have uv:=zH (bE W1 D ht);have vq:=zH λW J=>bB W (D.grow J);have ux:∀W,Rd r lb cap T (i+1) W->gd ac 273 #[tR (tB ⟨r,0,tD⟩),tW (Ex.cells ⟨1,t.n,⟨#[]⟩,t.ln,t.cl⟩)] W λen w'=>en= ub (tW (Ex.cells ⟨1,t.n,⟨#[]⟩,t.ln,t.cl⟩))/\bh W.heap.size W w':=λW J=>jN _ W J;have yq:=zH λs W J=>bg s W (D.grow J) ht;simp only[Tok.cells,v] at uv;unfold Ex.cells at ux;have xf:=zH ux;have hst:∀(w:World)(c:da cd),c.size=5->(dr ⟨w.heap.size,0,tD⟩ [Z U t.kind,tM t.text,Z U t.n,Z U t.ln,Z U t.cl] 0).run ac (w.alloc (ua c 263))= .ok () (w.alloc (ua #[Z U t.kind,tM t.text,Z U t.n,Z U t.ln,Z U t.cl] 263)):=λw c hc=>
  ct (P:=ac) w 263 c #[Z U t.kind,tM t.text,Z U t.n,Z U t.ln,Z U t.cl] (by show _=tB 5;kernel_rfl) hc (by simp[cj])
 have vr:∀(w:World)(c:da cd),c.size=7->(dr ⟨w.heap.size,0,tD⟩ [Z U 0,Z U 0,tM ⟨#[]⟩,tM ⟨#[]⟩,tP tD 0 0,Z U t.ln,Z U t.cl] 0).run ac (w.alloc (ua c 313))= .ok () (w.alloc (ua #[Z U 0,Z U 0,tM ⟨#[]⟩,tM ⟨#[]⟩,tP tD 0 0,Z U t.ln,Z U t.cl] 313)):=λw c hc=>
  ct (P:=ac) w 313 c #[Z U 0,Z U 0,tM ⟨#[]⟩,tM ⟨#[]⟩,tP tD 0 0,Z U t.ln,Z U t.cl] (by show _=tB 7;kernel_rfl) hc (by simp[cj])
 rw[v] at hst;have xj:=zH hst;have xl:=zH vr;have yr:i<T.length:=(ap.1 ht).1;have hT:=h.short;have yv:r<N:=by rw[<-q];exact h.rlt
 have vu:cm (lb<N):=by unfold cm;rw[<-q];exact h.lt
 have xo:=zH A;have xp:=zH ur;have va:=zH vm;have xr:=zH vp;have H1:=zH D;clear h ht ux hst vr A ur vm vp D v;go_enter func278,ntmps278
 go_upto_region 2 with(go_at_call 170;rw[xo.out];refine uv.out.mono ?_;rintro e w2 ⟨rfl,vx⟩;have xt:=xj.out w2;have vy:=zH vx;clear vx)
 clear xt;obtain⟨G,hG⟩:=zE w2.heap.size;obtain⟨W3,uc⟩:=zE (w2.alloc (ua #[Z U 3,tM t.text,Z U t.n,Z U t.ln,Z U t.cl] 263));rw[hG,uc];have we:=zD uc vy;have vc:W3.heap.size=G+1:=by rw[<-uc,<-hG];simp
 have yy:N+1<=G:=by rw[<-hG,<-va.out];exact vy.out.size
 have vd:W3.heap[G]?=tB (ua #[Z U 3,tM t.text,Z U t.n,Z U t.ln,Z U t.cl] 263 (0,0)):=by rw[<-uc,<-hG];exact alloc_at _ _
 obtain⟨⟨g0,g1,g2,g3,g4⟩,_,yW⟩:=fF vd;have wg:=xl.out W3;have xF:=zH we;have xT:=zH vd;clear hG uc we vd;rw[vc] at wg
 go_upto_region 4 with(fail)
 clear wg;obtain⟨f,u⟩:=zE (W3.alloc (ua #[Z U 0,Z U 0,tM ⟨#[]⟩,tM ⟨#[]⟩,tP tD 0 0,Z U t.ln,Z U t.cl] 313));rw[u];have ud:=zD u xF;have zc:f.heap.size=G+2:=by rw[<-u];simp[vc]
 have vf:f.heap[G+1]?=tB (ua #[Z U 0,Z U 0,tM ⟨#[]⟩,tM ⟨#[]⟩,tP tD 0 0,Z U t.ln,Z U t.cl] 313 (0,0)):=by rw[<-u,<-vc];exact alloc_at _ _
 have vh:f.heap[G]?=tB (ua #[Z U 3,tM t.text,Z U t.n,Z U t.ln,Z U t.cl] 263 (0,0)):=by rw[<-u];exact(cn _ _ G (by omega)).trans xT.out
 have wi:=(ud.block N (by have:=va.out;omega)).trans xr.out;have h4:=H1.out.grow ud;have ya:=zH (vq.out f ud);have yb:=zH ud;have yd:=zH vf;have zd:=zH vh;have ye:=zH wi;have H4:=zH h4;obtain⟨c0,c1,c3,f1,hr⟩:=h4.cells;obtain⟨⟨g0,g1,g2,g3,g4⟩,_,zj⟩:=fF vh;obtain⟨⟨e0,e1,e2,e3,e4,e5,e6⟩,⟨q0,q1,q2,q3,q4,q5,q6⟩,zp⟩:=dY vf;clear u ud vf vh wi h4 vq uv
 go_upto_region 35 with(go_at_call 171;refine ya.out.mono ?_;rintro e w2 ⟨rfl,rfl⟩)
 obtain⟨W5,ue⟩:=zE (((f.setCell ⟨r,1,tD⟩ (Z U ((i:bp)+1))).setCell ⟨G+1,0,tD⟩ (Z U 1)).setCell ⟨G+1,1,tD⟩ (Z U t.n));rw[ue];have wj:bJ r lb cap T (i+1) w W5:=by
  have a:bJ r lb cap T (i+1) f (f.setCell ⟨r,1,tD⟩ (Z U ((i:bp)+1))):=⟨H4.out.step,Ext.set1 f r 1 _⟩
  have hx:Ext (·=G+1) (f.setCell ⟨r,1,tD⟩ (Z U ((i:bp)+1))) W5:=by rw[<-ue];exact ah (ah (Ext.refl _ _) _) _
  have yi:bh w.heap.size w f:=by rw[q];exact xp.out.trans (yb.out.mono (by rw[va.out];omega))
  exact⟨a.1.ext hx (by omega) (by have:=vu.out;omega),(bJ.grown yi a).2.trans hx (λk v=> .inr (by omega))⟩
 have wk:W5.heap[G+1]?=tB (ua #[Z U 1,Z U t.n,tM ⟨#[]⟩,tM ⟨#[]⟩,tP tD 0 0,Z U t.ln,Z U t.cl] 313 (0,0)):=by
  rw[<-ue];exact bk _ (G+1) 1 _ _ _ (bk _ (G+1) 0 _ _ _ ((dl _ _ _ (G+1) (by show G+1≠r;omega)).trans yd.out))
 have wl:W5.heap[N]?=tB (ua #[Z U 0,Z U 0,tM ⟨#[]⟩,tM ⟨#[]⟩,tP tD 0 0,Z U 0,Z U 0] 313 (0,0)):=by
  rw[<-ue];exact(dl _ _ _ N (by show N≠G+1;omega)).trans ((dl _ _ _ N (by show N≠G+1;omega)).trans ((dl _ _ _ N (by show N≠r;omega)).trans ye.out))
 obtain⟨⟨e0,e1,e2,e3,e4,e5,e6⟩,⟨q0,q1,q2,q3,q4,q5,q6⟩,zr⟩:=dY wk;have ws:=zH wj;have wx:=zH wl;clear wj wk wl;clear ue c0 c1 c3 f1 hr g0 g1 g2 g3 g4
 go_wp2_with (go_at_call 273;refine(xf.out W5 ws.out.1).mono ?_;rintro e w6 ⟨rfl,vi⟩;have yk:=zH vi;have vj:=(vi.block N (ae wx.out)).trans wx.out;have yp:=zH vj;obtain⟨⟨p0,p1,p2,p3,p4,p5,p6⟩,⟨o0,o1,o2,o3,o4,o5,o6⟩,zv⟩:=dY vj;clear vi vj)
 (try simp only[db,Exit.then]);refine dv (eI (P:=ac) rfl _ _ N 313 _ (0,0) _ rfl (gF yp.out) i5 rfl (by kernel_rfl)) rfl ?_;have hM:bJ r lb cap T (i+1) w w6:=ws.out.grow yk.out;exact⟨rfl,hM.1.ext (cK _ _ _ _ _ _ _ _ _) (by omega) (by have:=vu.out;omega),hM.2.trans (cK _ _ _ _ _ _ _ _ _) (λk v=> .inr (by omega))⟩
theorem uP {r lb cap:bx}{T:bm Tok}{i:bx}{t u:Tok}(d:bp)(w:World)(h:Rd r lb cap T i w)(ht:T[i]?=tB t)(D:t.kind=1)(hu:T[i+1]?=tB u)(hp:dK u fD=tG):
  gd ac 278 #[tR (tB ⟨r,0,tD⟩),Z U d] w λe w'=>e= ub (tW (Ex.cells ⟨2,0,t.text,t.ln,t.cl⟩))/\bJ r lb cap T (i+1) w w':=by
 obtain⟨N,q⟩:=zE w.heap.size;obtain⟨W1,J⟩:=zE (w.alloc (ua #[Z U 0,Z U 0,tM ⟨#[]⟩,tM ⟨#[]⟩,tP tD 0 0,Z U 0,Z U 0] 313));have ur:=iV J q;have vq:W1.heap.size=N+1:=by rw[<-J];simp[q]
 have vr:W1.heap[N]?=tB (ua #[Z U 0,Z U 0,tM ⟨#[]⟩,tM ⟨#[]⟩,tP tD 0 0,Z U 0,Z U 0] 313 (0,0)):=by rw[<-J,<-q];exact alloc_at _ _
 have h1:=h.grow (by rw[q];exact ur);have uv:=zH (bE W1 h1 ht);have vu:=zH λW v=>bB W (h1.grow v);have ux:∀W,Rd r lb cap T (i+1) W->gd ac 273 #[tR (tB ⟨r,0,tD⟩),tW (Ex.cells ⟨2,0,t.text,t.ln,t.cl⟩)] W λen w'=>en= ub (tW (Ex.cells ⟨2,0,t.text,t.ln,t.cl⟩))/\bh W.heap.size W w':=λW v=>jN _ W v;have zv:=zH λs W v=>bg s W (h1.grow v) ht;have va:cm (∀W,Rd r lb cap T (i+1) W->zP 172 #[tR (tB ⟨r,0,tD⟩),tM fD] W (tU (dK u fD))):=λW v=>bg _ W v hu;rw[hp] at va;unfold fD at va;simp only[Tok.cells,D] at uv;unfold Ex.cells at ux;have ya:=zH ux;have hst:∀(w:World)(c:da cd),c.size=5->(dr ⟨w.heap.size,0,tD⟩ [Z U t.kind,tM t.text,Z U t.n,Z U t.ln,Z U t.cl] 0).run ac (w.alloc (ua c 263))= .ok () (w.alloc (ua #[Z U t.kind,tM t.text,Z U t.n,Z U t.ln,Z U t.cl] 263)):=λw c hc=>
  ct (P:=ac) w 263 c #[Z U t.kind,tM t.text,Z U t.n,Z U t.ln,Z U t.cl] (by show _=tB 5;kernel_rfl) hc (by simp[cj])
 have vx:∀(w:World)(c:da cd),c.size=7->(dr ⟨w.heap.size,0,tD⟩ [Z U 0,Z U 0,tM ⟨#[]⟩,tM ⟨#[]⟩,tP tD 0 0,Z U t.ln,Z U t.cl] 0).run ac (w.alloc (ua c 313))= .ok () (w.alloc (ua #[Z U 0,Z U 0,tM ⟨#[]⟩,tM ⟨#[]⟩,tP tD 0 0,Z U t.ln,Z U t.cl] 313)):=λw c hc=>
  ct (P:=ac) w 313 c #[Z U 0,Z U 0,tM ⟨#[]⟩,tM ⟨#[]⟩,tP tD 0 0,Z U t.ln,Z U t.cl] (by show _=tB 7;kernel_rfl) hc (by simp[cj])
 rw[D] at hst;have yb:=zH hst;have yd:=zH vx;have An:i<T.length:=(ap.1 ht).1;have hT:=h.short;have As:r<N:=by rw[<-q];exact h.rlt
 have vy:cm (lb<N):=by unfold cm;rw[<-q];exact h.lt
 have ye:=zH J;have yi:=zH ur;have vc:=zH vq;have yk:=zH vr;have H1:=zH h1;clear h ht ux hst vx J ur vq vr h1 D hu hp;go_enter func278,ntmps278
 go_upto_region 2 with(go_at_call 170;rw[ye.out];refine uv.out.mono ?_;rintro e w2 ⟨rfl,we⟩;have yp:=yb.out w2;have wg:=zH we;clear we)
 clear yp;obtain⟨G,hG⟩:=zE w2.heap.size;obtain⟨W3,uc⟩:=zE (w2.alloc (ua #[Z U 1,tM t.text,Z U t.n,Z U t.ln,Z U t.cl] 263));rw[hG,uc];have wi:=zD uc wg;have vd:W3.heap.size=G+1:=by rw[<-uc,<-hG];simp
 have At:N+1<=G:=by rw[<-hG,<-vc.out];exact wg.out.size
 have vf:W3.heap[G]?=tB (ua #[Z U 1,tM t.text,Z U t.n,Z U t.ln,Z U t.cl] 263 (0,0)):=by rw[<-uc,<-hG];exact alloc_at _ _
 obtain⟨⟨g0,g1,g2,g3,g4⟩,_,Ax⟩:=fF vf;have wj:=yd.out W3;have yq:=zH wi;have yr:=zH vf;clear hG uc wi vf;rw[vd] at wj
 go_upto_region 4 with(fail)
 clear wj;obtain⟨f,A⟩:=zE (W3.alloc (ua #[Z U 0,Z U 0,tM ⟨#[]⟩,tM ⟨#[]⟩,tP tD 0 0,Z U t.ln,Z U t.cl] 313));rw[A];have ud:=zD A yq;have AD:f.heap.size=G+2:=by rw[<-A];simp[vd]
 have vh:f.heap[G+1]?=tB (ua #[Z U 0,Z U 0,tM ⟨#[]⟩,tM ⟨#[]⟩,tP tD 0 0,Z U t.ln,Z U t.cl] 313 (0,0)):=by rw[<-A,<-vd];exact alloc_at _ _
 have vi:f.heap[G]?=tB (ua #[Z U 1,tM t.text,Z U t.n,Z U t.ln,Z U t.cl] 263 (0,0)):=by rw[<-A];exact(cn _ _ G (by omega)).trans yr.out
 have wk:=(ud.block N (by have:=vc.out;omega)).trans yk.out;have h4:=H1.out.grow ud;have yv:=zH (vu.out f ud);have yy:=zH ud;have yW:=zH vh;have AE:=zH vi;have zc:=zH wk;have H4:=zH h4;obtain⟨c0,c1,c3,f1,hr⟩:=h4.cells;obtain⟨⟨g0,g1,g2,g3,g4⟩,_,zd⟩:=fF vi;obtain⟨⟨e0,e1,e2,e3,e4,e5,e6⟩,⟨q0,q1,q2,q3,q4,q5,q6⟩,AF⟩:=dY vh;clear A ud vh vi wk h4 vu uv
 go_upto_region 13 with(go_at_call 171;refine yv.out.mono ?_;rintro e w2 ⟨rfl,rfl⟩)
 obtain⟨W6,ue⟩:=zE (((f.setCell ⟨r,1,tD⟩ (Z U ((i:bp)+1))).setCell ⟨G+1,0,tD⟩ (Z U 2)).setCell ⟨G+1,2,tD⟩ (tM t.text));rw[ue];have wl:bJ r lb cap T (i+1) w W6:=by
  have a:bJ r lb cap T (i+1) f (f.setCell ⟨r,1,tD⟩ (Z U ((i:bp)+1))):=⟨H4.out.step,Ext.set1 f r 1 _⟩
  have hx:Ext (·=G+1) (f.setCell ⟨r,1,tD⟩ (Z U ((i:bp)+1))) W6:=by rw[<-ue];exact ah (ah (Ext.refl _ _) _) _
  have zj:bh w.heap.size w f:=by rw[q];exact yi.out.trans (yy.out.mono (by rw[vc.out];omega))
  exact⟨a.1.ext hx (by omega) (by have:=vy.out;omega),(bJ.grown zj a).2.trans hx (λk D=> .inr (by omega))⟩
 have ws:W6.heap[G+1]?=tB (ua #[Z U 2,Z U 0,tM t.text,tM ⟨#[]⟩,tP tD 0 0,Z U t.ln,Z U t.cl] 313 (0,0)):=by
  rw[<-ue];exact bk _ (G+1) 2 _ _ _ (bk _ (G+1) 0 _ _ _ ((dl _ _ _ (G+1) (by show G+1≠r;omega)).trans yW.out))
 have wx:W6.heap[N]?=tB (ua #[Z U 0,Z U 0,tM ⟨#[]⟩,tM ⟨#[]⟩,tP tD 0 0,Z U 0,Z U 0] 313 (0,0)):=by
  rw[<-ue];exact(dl _ _ _ N (by show N≠G+1;omega)).trans ((dl _ _ _ N (by show N≠G+1;omega)).trans ((dl _ _ _ N (by show N≠r;omega)).trans zc.out))
 have xf:=zH wl;have xj:=zH ws;have xl:=zH wx;clear ue wl ws wx c0 c1 c3 f1 hr e0 e1 e2 e3 e4 e5 e6 q0 q1 q2 q3 q4 q5 q6 g0 g1 g2 g3 g4 zd
 go_upto_region 35 with(go_at_call 172;refine(va.out W6 xf.out.1).mono ?_;rintro e W5 ⟨rfl,xo⟩;have vj:=zH xo;clear xo)
 have xp:=xf.out.grow vj.out;have xr:=(vj.out.block (G+1) (ae xj.out)).trans xj.out;have xt:=(vj.out.block N (ae xl.out)).trans xl.out;obtain⟨⟨e0,e1,e2,e3,e4,e5,e6⟩,⟨q0,q1,q2,q3,q4,q5,q6⟩,AG⟩:=dY xr;have xF:=zH xp;have xT:=zH xt;clear xp xr xt
 skip
 go_wp2_with (go_at_call 273;refine(ya.out W5 xF.out.1).mono ?_;rintro e w6 ⟨rfl,vm⟩;have zp:=zH vm;have vp:=(vm.block N (ae xT.out)).trans xT.out;have zr:=zH vp;obtain⟨⟨p0,p1,p2,p3,p4,p5,p6⟩,⟨o0,o1,o2,o3,o4,o5,o6⟩,AH⟩:=dY vp;clear vm vp)
 (try simp only[db,Exit.then]);refine dv (eI (P:=ac) rfl _ _ N 313 _ (0,0) _ rfl (gF zr.out) i5 rfl (by kernel_rfl)) rfl ?_;have hM:bJ r lb cap T (i+1) w w6:=xF.out.grow zp.out;exact⟨rfl,hM.1.ext (cK _ _ _ _ _ _ _ _ _) (by omega) (by have:=vy.out;omega),hM.2.trans (cK _ _ _ _ _ _ _ _ _) (λk D=> .inr (by omega))⟩
theorem uQ {r lb cap:bx}{T:bm Tok}{i:bx}{t u:Tok}(d:bp)(w:World)(h:Rd r lb cap T i w)(ht:T[i]?=tB t)(D:t.kind=2)(hw:dK t Eb=tE)(wi:dK t Ea=tG)(hu:T[i+1]?=tB u)(wj:u.kind=1):
  gd ac 278 #[tR (tB ⟨r,0,tD⟩),Z U d] w λe w'=>e= ub (tW (Ex.cells ⟨7,0,u.text,t.ln,t.cl⟩))/\bJ r lb cap T (i+1+1) w w':=by
 obtain⟨N,f⟩:=zE w.heap.size;obtain⟨W1,uc⟩:=zE (w.alloc (ua #[Z U 0,Z U 0,tM ⟨#[]⟩,tM ⟨#[]⟩,tP tD 0 0,Z U 0,Z U 0] 313));have vd:=iV uc f;have wk:W1.heap.size=N+1:=by rw[<-uc];simp[f]
 have wl:W1.heap[N]?=tB (ua #[Z U 0,Z U 0,tM ⟨#[]⟩,tM ⟨#[]⟩,tP tD 0 0,Z U 0,Z U 0] 313 (0,0)):=by rw[<-uc,<-f];exact alloc_at _ _
 have h1:=h.grow (by rw[f];exact vd);have vf:=zH (bE W1 h1 ht);have ws:=zH λW q=>bB W (h1.grow q);have vh:∀W,Rd r lb cap T (i+1+1) W->gd ac 273 #[tR (tB ⟨r,0,tD⟩),tW (Ex.cells ⟨7,0,u.text,t.ln,t.cl⟩)] W λen w'=>en= ub (tW (Ex.cells ⟨7,0,u.text,t.ln,t.cl⟩))/\bh W.heap.size W w':=λW q=>jN _ W q;have wx:=zH λs W q=>bg s W (h1.grow q) ht;have vi:=zH (wx.out Ea);rw[wi] at vi;unfold Ea at vi;have vj:=zH (wx.out Eb);rw[hw] at vj;unfold Eb at vj;have zj:cm (∀W,Rd r lb cap T (i+1) W->gd ac 208 #[tR (tB ⟨r,0,tD⟩)] W λe w'=>e= ub (.tuple #[tM u.text,tW #[Z U u.ln,Z U u.cl]])/\bJ r lb cap T (i+1+1) W w'):=λW q=>dZ W q hu wj;simp only[Tok.cells,D] at vf;unfold Ex.cells at vh;have zp:=zH vh;have hst:∀(w:World)(c:da cd),c.size=5->(dr ⟨w.heap.size,0,tD⟩ [Z U t.kind,tM t.text,Z U t.n,Z U t.ln,Z U t.cl] 0).run ac (w.alloc (ua c 263))= .ok () (w.alloc (ua #[Z U t.kind,tM t.text,Z U t.n,Z U t.ln,Z U t.cl] 263)):=λw c hc=>
  ct (P:=ac) w 263 c #[Z U t.kind,tM t.text,Z U t.n,Z U t.ln,Z U t.cl] (by show _=tB 5;kernel_rfl) hc (by simp[cj])
 have xf:∀(w:World)(c:da cd),c.size=7->(dr ⟨w.heap.size,0,tD⟩ [Z U 0,Z U 0,tM ⟨#[]⟩,tM ⟨#[]⟩,tP tD 0 0,Z U t.ln,Z U t.cl] 0).run ac (w.alloc (ua c 313))= .ok () (w.alloc (ua #[Z U 0,Z U 0,tM ⟨#[]⟩,tM ⟨#[]⟩,tP tD 0 0,Z U t.ln,Z U t.cl] 313)):=λw c hc=>
  ct (P:=ac) w 313 c #[Z U 0,Z U 0,tM ⟨#[]⟩,tM ⟨#[]⟩,tP tD 0 0,Z U t.ln,Z U t.cl] (by show _=tB 7;kernel_rfl) hc (by simp[cj])
 rw[D] at hst;have zr:=zH hst;have zv:=zH xf;have AS:i<T.length:=(ap.1 ht).1;have hT:=h.short;have AT:r<N:=by rw[<-f];exact h.rlt
 have vm:cm (lb<N):=by unfold cm;rw[<-f];exact h.lt
 have An:=zH uc;have As:=zH vd;have vp:=zH wk;have At:=zH wl;have H1:=zH h1;clear h ht vh hst xf uc vd wk wl h1 D hw wi hu wj;go_enter func278,ntmps278
 go_upto_region 2 with(go_at_call 170;rw[An.out];refine vf.out.mono ?_;rintro e w2 ⟨rfl,xj⟩;have Ax:=zr.out w2;have xl:=zH xj;clear xj)
 clear Ax;obtain⟨G,hG⟩:=zE w2.heap.size;obtain⟨W3,ud⟩:=zE (w2.alloc (ua #[Z U 2,tM t.text,Z U t.n,Z U t.ln,Z U t.cl] 263));rw[hG,ud];have xo:=zD ud xl;have vq:W3.heap.size=G+1:=by rw[<-ud,<-hG];simp
 have AW:N+1<=G:=by rw[<-hG,<-vp.out];exact xl.out.size
 have vr:W3.heap[G]?=tB (ua #[Z U 2,tM t.text,Z U t.n,Z U t.ln,Z U t.cl] 263 (0,0)):=by rw[<-ud,<-hG];exact alloc_at _ _
 obtain⟨⟨g0,g1,g2,g3,g4⟩,_,A0⟩:=fF vr;have xp:=zv.out W3;have AD:=zH xo;have AE:=zH vr;clear hG ud xo vr;rw[vq] at xp
 go_upto_region 4 with(fail)
 clear xp;obtain⟨W4,J⟩:=zE (W3.alloc (ua #[Z U 0,Z U 0,tM ⟨#[]⟩,tM ⟨#[]⟩,tP tD 0 0,Z U t.ln,Z U t.cl] 313));rw[J];have ue:=zD J AD;have A2:W4.heap.size=G+2:=by rw[<-J];simp[vq]
 have xr:W4.heap[G+1]?=tB (ua #[Z U 0,Z U 0,tM ⟨#[]⟩,tM ⟨#[]⟩,tP tD 0 0,Z U t.ln,Z U t.cl] 313 (0,0)):=by rw[<-J,<-vq];exact alloc_at _ _
 have vu:W4.heap[G]?=tB (ua #[Z U 2,tM t.text,Z U t.n,Z U t.ln,Z U t.cl] 263 (0,0)):=by rw[<-J];exact(cn _ _ G (by omega)).trans AE.out
 have xt:=(ue.block N (by have:=vp.out;omega)).trans At.out;have h4:=H1.out.grow ue;have AF:=zH (ws.out W4 ue);have ur:=zH ue;have xF:=zH xr;have A4:=zH vu;have xT:=zH xt;have H4:=zH h4;obtain⟨⟨g0,g1,g2,g3,g4⟩,_,A5⟩:=fF vu;clear J ue xr vu xt h4 ws vf
 go_upto_region 19 with(first
  |(go_at_call 171;refine AF.out.mono ?_;rintro e w2 ⟨rfl,rfl⟩)
  |(go_at_call 172;refine(vi.out W4 ur.out).mono ?_;rintro e W6 ⟨rfl,v⟩;have vx:=zH (ur.out.trans (v.mono ur.out.size));have ya:=zH v;clear v))
 go_upto_region 20 with(go_at_call 172;refine(vj.out W6 vx.out).mono ?_;rintro e W7 ⟨rfl,yb⟩;have ux:=zH (ya.out.trans (yb.mono ya.out.size));clear yb)
 have h7:=H4.out.grow ux.out;have vy:=(ux.out.block (G+1) (ae xF.out)).trans xF.out;have yd:=(ux.out.block N (ae xT.out)).trans xT.out;obtain⟨c0,c1,c3,f1,hr⟩:=h7.cells;obtain⟨⟨e0,e1,e2,e3,e4,e5,e6⟩,⟨q0,q1,q2,q3,q4,q5,q6⟩,AG⟩:=dY vy;have H7:=zH h7;have AH:=zH vy;have AI:=zH yd;clear h7 vy yd
 go_upto_region 22 with(fail)
 obtain⟨W8,uv⟩:=zE ((W7.setCell ⟨r,1,tD⟩ (Z U ((i:bp)+1))).setCell ⟨G+1,0,tD⟩ (Z U 7));rw[uv];have ye:bJ r lb cap T (i+1) w W8:=by
  have a:bJ r lb cap T (i+1) W7 (W7.setCell ⟨r,1,tD⟩ (Z U ((i:bp)+1))):=⟨H7.out.step,Ext.set1 W7 r 1 _⟩
  have hx:Ext (·=G+1) (W7.setCell ⟨r,1,tD⟩ (Z U ((i:bp)+1))) W8:=by rw[<-uv];exact ah (Ext.refl _ _) _
  have AK:bh w.heap.size w W7:=by rw[f];exact As.out.trans ((ur.out.trans (ux.out.mono ur.out.size)).mono (by rw[vp.out];omega))
  exact⟨a.1.ext hx (by omega) (by have:=vm.out;omega),(bJ.grown AK a).2.trans hx (λk D=> .inr (by omega))⟩
 have yi:W8.heap[G+1]?=tB (ua #[Z U 7,Z U 0,tM ⟨#[]⟩,tM ⟨#[]⟩,tP tD 0 0,Z U t.ln,Z U t.cl] 313 (0,0)):=by
  rw[<-uv];exact bk _ (G+1) 0 _ _ _ ((dl _ _ _ (G+1) (by show G+1≠r;omega)).trans AH.out)
 have yk:W8.heap[N]?=tB (ua #[Z U 0,Z U 0,tM ⟨#[]⟩,tM ⟨#[]⟩,tP tD 0 0,Z U 0,Z U 0] 313 (0,0)):=by
  rw[<-uv];exact(dl _ _ _ N (by show N≠G+1;omega)).trans ((dl _ _ _ N (by show N≠r;omega)).trans AI.out)
 have yp:=zH ye;have yq:=zH yi;have AM:=zH yk;clear uv ye yi yk c0 c1 c3 f1 hr e0 e1 e2 e3 e4 e5 e6 q0 q1 q2 q3 q4 q5 q6 AG
 go_upto_region 35 with(go_at_call 208;refine(zj.out W8 yp.out.1).mono ?_;rintro e W9 ⟨rfl,A⟩;have we:=zH A;have yr:=A.2.heap yq.out (by omega);obtain⟨⟨e0,e1,e2,e3,e4,e5,e6⟩,⟨q0,q1,q2,q3,q4,q5,q6⟩,A6⟩:=dY yr;clear A yr)
 obtain⟨W5,va⟩:=zE (W9.setCell ⟨G+1,2,tD⟩ (tM u.text));rw[va];have vc:Ext (·=G+1) W9 W5:=by rw[<-va];exact ah (Ext.refl _ _) _
 have A:=yp.out.trans we.out;have yv:bJ r lb cap T (i+1+1) w W5:=⟨A.1.ext vc (by omega) (by have:=vm.out;omega),A.2.trans vc (λk D=> .inr (by omega))⟩
 have yy:W5.heap[G+1]?=tB (ua #[Z U 7,Z U 0,tM u.text,tM ⟨#[]⟩,tP tD 0 0,Z U t.ln,Z U t.cl] 313 (0,0)):=by
  rw[<-va];exact bk _ (G+1) 2 _ _ _ (we.out.2.heap yq.out (by omega))
 have yW:W5.heap[N]?=tB (ua #[Z U 0,Z U 0,tM ⟨#[]⟩,tM ⟨#[]⟩,tP tD 0 0,Z U 0,Z U 0] 313 (0,0)):=vc.heap (we.out.2.heap AM.out (by omega)) (by omega);clear vc A;obtain⟨⟨e0,e1,e2,e3,e4,e5,e6⟩,⟨q0,q1,q2,q3,q4,q5,q6⟩,Bk⟩:=dY yy;have zc:=zH yv;have zd:=zH yW;clear yv yy yW;clear va
 go_wp2_with (go_at_call 273;refine(zp.out W5 zc.out.1).mono ?_;rintro e w6 ⟨rfl,v⟩;have vx:=zH v;have wg:=(v.block N (ae zd.out)).trans zd.out;have AN:=zH wg;obtain⟨⟨p0,p1,p2,p3,p4,p5,p6⟩,⟨o0,o1,o2,o3,o4,o5,o6⟩,Bm⟩:=dY wg;clear v wg)
 (try simp only[db,Exit.then]);refine dv (eI (P:=ac) rfl _ _ N 313 _ (0,0) _ rfl (gF AN.out) i5 rfl (by kernel_rfl)) rfl ?_;have hM:bJ r lb cap T (i+1+1) w w6:=zc.out.grow vx.out;exact⟨rfl,hM.1.ext (cK _ _ _ _ _ _ _ _ _) (by omega) (by have:=vm.out;omega),hM.2.trans (cK _ _ _ _ _ _ _ _ _) (λk D=> .inr (by omega))⟩
def dO:aE:=⟨#[59]⟩
def A7:aE:=⟨#[45,62]⟩
theorem j3 {t:Tok}{s s':aE}(h:dK t s=tE)(d:s≠s'):dK t s'=tG:=by
 unfold dK at h⊢;rw[eN] at h;have e:t.text=s:=eq_of_beq h.2;rw[e,dp.2 d,Bool.and_false]
theorem pV {t:Tok}(d:t.kind≠2)(f:t.kind≠4)(l:bm aE):mZ t l=tG:=by
 unfold mZ;rw[lz];intro s _;unfold dK;rw[dp.2 d,dp.2 f];simp
theorem mO {t:Tok}{s:aE}(h:dK t s=tE){l:bm aE}(d:∀x∈l,s≠x):mZ t l=tG:=by
 unfold mZ;rw[lz];intro x f;rw[j3 h (d x f)];simp
inductive fE (T:bm Tok) (i:bx):Ex->bx->Prop
 |num (t:Tok):T[i]?=tB t->t.kind=3->fE T i ⟨1,t.n,⟨#[]⟩,t.ln,t.cl⟩ (i+1)
 |var (t u:Tok):T[i]?=tB t->t.kind=1->T[i+1]?=tB u->dK u fD=tG->fE T i ⟨2,0,t.text,t.ln,t.cl⟩ (i+1)
 |new (t u:Tok):T[i]?=tB t->t.kind=2->dK t Eb=tE->T[i+1]?=tB u->u.kind=1->fE T i ⟨7,0,u.text,t.ln,t.cl⟩ (i+1+1)
theorem fE.first {T:bm Tok}{i k:bx}{e:Ex}(h:fE T i e k):∃t,T[i]?=tB t/\(t.kind=3\/t.kind=1\/dK t Eb=tE)/\i<k:=by
 cases h with
 |num t d f=>exact⟨t,d,.inl f,by omega⟩
 |var t u d f=>exact⟨t,d,.inr (.inl f),by omega⟩
 |new t u d f q=>exact⟨t,d,.inr (.inr q),by omega⟩
theorem qU {r lb cap:bx}{T:bm Tok}{i k:bx}{e:Ex}(d:bp)(w:World)(h:Rd r lb cap T i w)(D:fE T i e k):
  gd ac 278 #[tR (tB ⟨r,0,tD⟩),Z U d] w λG w'=>G= ub (tW e.cells)/\bJ r lb cap T k w w':=by
 cases D with
 |num t f q=>exact uN d w h f q
 |var t u f q v A=>exact uP d w h f q v A
 |new t u f q v A J=>exact uQ d w h f q v (j3 v (by decide)) A J
theorem uR {r lb cap:bx}{T:bm Tok}{i k:bx}{e:Ex}{z:Tok}(d:bp)(w:World)(h:Rd r lb cap T i w)(A:fE T i e k)(hz:T[k]?=tB z)(hs:dK z dO=tE):
  gd ac 276 #[tR (tB ⟨r,0,tD⟩),Z U d] w λD w'=>D= ub (tW e.cells)/\bJ r lb cap T k w w':=by
 obtain⟨N,f⟩:=zE w.heap.size;obtain⟨W1,u⟩:=zE ((w.alloc (ua #[Z U 0,Z U 0,tM ⟨#[]⟩,tM ⟨#[]⟩,tP tD 0 0,Z U 0,Z U 0] 313)).alloc (ua #[tM ⟨#[45]⟩,tM ⟨#[33]⟩] 9));have J:=uF u f;have vd:W1.heap.size=N+2:=by rw[<-u];simp[f]
 have vf:=yP u f;have vh:=AO u f;have h1:=h.grow (by rw[f];exact J);obtain⟨t,ht,vi,xF⟩:=A.first
 have uc:=iy (N+1) 2 [⟨#[45]⟩,⟨#[33]⟩] W1 h1 ht (by decide) (by omega) (λk x q=>by
  rw[cc _ _ _ _ _ _ vh]
  match k,q with
  |0,q=>simp at q;subst q;rfl
  |1,q=>simp at q;subst q;rfl)
 have vj:mZ t [⟨#[45]⟩,⟨#[33]⟩]=tG:=by
  rcases vi with h|h|h
  ·exact pV (by omega) (by omega) _
  ·exact pV (by omega) (by omega) _
  ·exact mO h (by decide)
 rw[vj] at uc;have ws:=zH uc;have ud:∀W,Rd r lb cap T i W->gd ac 278 #[tR (tB ⟨r,0,tD⟩),Z U d] W λD w'=>D= ub (tW e.cells)/\bJ r lb cap T k W w':=λW hW=>qU d W hW A;have ue:cm (∀W,Rd r lb cap T k W->zP 172 #[tR (tB ⟨r,0,tD⟩),tM A7] W (tU (dK z A7))):=λW hW=>bg _ W hW hz;rw[j3 hs (by decide)] at ue;unfold A7 at ue;unfold Ex.cells at ud⊢;have wx:=zH ud;have hst:∀(w:World)(c:da cd),c.size=7->(dr ⟨w.heap.size,0,tD⟩ [Z U e.kind,Z U e.n,tM e.nm,tM ⟨#[]⟩,tP tD 0 0,Z U e.ln,Z U e.cl] 0).run ac (w.alloc (ua c 313))= .ok () (w.alloc (ua #[Z U e.kind,Z U e.n,tM e.nm,tM ⟨#[]⟩,tP tD 0 0,Z U e.ln,Z U e.cl] 313)):=λw c hc=>
  ct (P:=ac) w 313 c #[Z U e.kind,Z U e.n,tM e.nm,tM ⟨#[]⟩,tP tD 0 0,Z U e.ln,Z U e.cl] (by show _=tB 7;kernel_rfl) hc (by simp[cj])
 have xf:=zH hst;have xT:r<N:=by rw[<-f];exact h.rlt
 have xj:cm (lb<N):=by unfold cm;rw[<-f];exact h.lt
 have xl:=zH u;have xo:=zH J;have vm:=zH vd;have xp:=zH vf;have H1:=zH h1;clear h A hz hs u J vd vf vh h1 ht vi uc vj ud hst;go_enter func276,ntmps276
 go_upto_region 8 with(go_at_call 260;rw[xl.out];refine ws.out.mono ?_;rintro e w2 ⟨rfl,vp⟩;have ur:=zH vp;clear vp)
 have H2:=zH (H1.out.grow ur.out);have vq:=zH ((ur.out.block N (by rw[vm.out];omega)).trans xp.out)
 go_upto_region 9 with(go_at_call 278;refine(wx.out w2 H2.out).mono ?_;rintro e w3 ⟨rfl,vr⟩;have uv:=zH vr;have xr:=xf.out w3;clear vr)
 clear xr;obtain⟨G,hG⟩:=zE w3.heap.size;obtain⟨W4,v⟩:=zE (w3.alloc (ua #[Z U e.kind,Z U e.n,tM e.nm,tM ⟨#[]⟩,tP tD 0 0,Z U e.ln,Z U e.cl] 313));rw[hG,v];have ux:=iq v;have vu:bh w.heap.size w w2:=by rw[f];exact xo.out.trans (ur.out.mono (by rw[vm.out];omega))
 have vx:bJ r lb cap T k w W4:=(bJ.grown vu uv.out).grow ux;have vy:W4.heap[G]?=tB (ua #[Z U e.kind,Z U e.n,tM e.nm,tM ⟨#[]⟩,tP tD 0 0,Z U e.ln,Z U e.cl] 313 (0,0)):=by rw[<-v,<-hG];exact alloc_at _ _
 have we:=(ux.block N (ae (uv.out.2.heap vq.out (by omega)))).trans (uv.out.2.heap vq.out (by omega));have wg:=zH vx;have wi:=zH vy;have wj:=zH we;clear hG v ux vu vx vy we
 go_loopw [9] (λ_ wr=>wr=W4) (λ_ _=>0)
 case atStart=>rfl
 case round=>
  obtain rfl:=hrel
  go_upto_region 14 with(go_at_call 172;refine(ue.out _ wg.out.1).mono ?_;rintro e w5 ⟨rfl,wk⟩;have va:=zH wk;clear wk)
  have wl:=(va.out.block G (ae wi.out)).trans wi.out;have vc:=(va.out.block N (ae wj.out)).trans wj.out;have xt:=zH vc;obtain⟨⟨g0,g1,g2,g3,g4,g5,g6⟩,_,ya⟩:=dY wl;obtain⟨⟨p0,p1,p2,p3,p4,p5,p6⟩,⟨o0,o1,o2,o3,o4,o5,o6⟩,yb⟩:=dY vc;clear wl vc;go_wp2;(try simp only[db,Exit.then]);refine dv (eI (P:=ac) rfl _ _ N 313 _ (0,0) _ rfl (gF xt.out) i5 rfl (by kernel_rfl)) rfl ?_;have hM:bJ r lb cap T k w w5:=wg.out.grow va.out;exact⟨rfl,hM.1.ext (cK _ _ _ _ _ _ _ _ _) (by omega) (by have:=xj.out;omega),hM.2.trans (cK _ _ _ _ _ _ _ _ _) (λk hk=> .inr (by omega))⟩
def opsOf (q:bx):bm aE:=match q with
 |0=>[⟨#[42]⟩,⟨#[47]⟩,⟨#[37]⟩]
 |1=>[⟨#[43]⟩,⟨#[45]⟩]
 |_=>[⟨#[61,61]⟩,⟨#[33,61]⟩,⟨#[60]⟩,⟨#[60,61]⟩,⟨#[62]⟩,⟨#[62,61]⟩]
def yY:da cd:=#[tM ⟨#[42]⟩,tM ⟨#[47]⟩,tM ⟨#[37]⟩]
def Ci:da cd:=#[tM ⟨#[43]⟩,tM ⟨#[45]⟩]
def Ec:da cd:=#[tM ⟨#[61,61]⟩,tM ⟨#[33,61]⟩,tM ⟨#[60]⟩,tM ⟨#[60,61]⟩,tM ⟨#[62]⟩,tM ⟨#[62,61]⟩]
def pW (w:World)(N:bx):World:=
 ((((w.alloc (ua #[Z U 0,Z U 0,tM ⟨#[]⟩,tM ⟨#[]⟩,tP tD 0 0,Z U 0,Z U 0] 313)).alloc (ua #[tM ⟨#[42]⟩,tM ⟨#[47]⟩,tM ⟨#[37]⟩] 9)).alloc (ua #[tM ⟨#[43]⟩,tM ⟨#[45]⟩] 9)).alloc
  (ua #[tM ⟨#[61,61]⟩,tM ⟨#[33,61]⟩,tM ⟨#[60]⟩,tM ⟨#[60,61]⟩,tM ⟨#[62]⟩,tM ⟨#[62,61]⟩] 9)).alloc (ua #[tP (tB ⟨N+1,0,tD⟩) 3 3,tP (tB ⟨N+2,0,tD⟩) 2 2,tP (tB ⟨N+3,0,tD⟩) 6 6] 223)
structure xA (w W:World)(N:bx):Prop where
 low:bh N w W
 size:W.heap.size=N+5
 res:W.heap[N]?=tB (ua #[Z U 0,Z U 0,tM ⟨#[]⟩,tM ⟨#[]⟩,tP tD 0 0,Z U 0,Z U 0] 313 (0,0))
 r0:W.heap[N+1]?=tB (ua yY 9 (0,0))
 r1:W.heap[N+2]?=tB (ua Ci 9 (0,0))
 r2:W.heap[N+3]?=tB (ua Ec 9 (0,0))
 out:W.heap[N+4]?=tB (ua #[tP (tB ⟨N+1,0,tD⟩) 3 3,tP (tB ⟨N+2,0,tD⟩) 2 2,tP (tB ⟨N+3,0,tD⟩) 6 6] 223 (0,0))
theorem rQ (w:World)(N:bx)(d:w.heap.size=N):xA w (pW w N) N:=by
 unfold pW;refine⟨(((((aq N w).alloc (by omega) _).alloc (by simp<;>omega) _).alloc (by simp<;>omega) _).alloc (by simp<;>omega) _).alloc (by simp<;>omega) _,by simp[d], ?_, ?_, ?_, ?_, ?_⟩
 ·refine(cn _ _ N (by simp;omega)).trans ((cn _ _ N (by simp;omega)).trans ((cn _ _ N (by simp;omega)).trans ((cn _ _ N (by simp;omega)).trans ?_)))
  rw[<-d];exact alloc_at _ _
 ·refine(cn _ _ (N+1) (by simp;omega)).trans ((cn _ _ (N+1) (by simp;omega)).trans ((cn _ _ (N+1) (by simp;omega)).trans ?_))
  have:=alloc_at (w.alloc (ua #[Z U 0,Z U 0,tM ⟨#[]⟩,tM ⟨#[]⟩,tP tD 0 0,Z U 0,Z U 0] 313)) (ua yY 9);rw[World.size_alloc,d] at this;exact this
 ·refine(cn _ _ (N+2) (by simp;omega)).trans ((cn _ _ (N+2) (by simp;omega)).trans ?_)
  have:=alloc_at ((w.alloc (ua #[Z U 0,Z U 0,tM ⟨#[]⟩,tM ⟨#[]⟩,tP tD 0 0,Z U 0,Z U 0] 313)).alloc (ua yY 9)) (ua Ci 9);rw[World.size_alloc,World.size_alloc,d] at this;exact this
 ·refine(cn _ _ (N+3) (by simp;omega)).trans ?_
  have:=alloc_at (((w.alloc (ua #[Z U 0,Z U 0,tM ⟨#[]⟩,tM ⟨#[]⟩,tP tD 0 0,Z U 0,Z U 0] 313)).alloc (ua yY 9)).alloc (ua Ci 9)) (ua Ec 9);rw[World.size_alloc,World.size_alloc,World.size_alloc,d] at this;exact this
 ·have:=alloc_at ((((w.alloc (ua #[Z U 0,Z U 0,tM ⟨#[]⟩,tM ⟨#[]⟩,tP tD 0 0,Z U 0,Z U 0] 313)).alloc (ua yY 9)).alloc (ua Ci 9)).alloc (ua Ec 9)) (ua #[tP (tB ⟨N+1,0,tD⟩) 3 3,tP (tB ⟨N+2,0,tD⟩) 2 2,tP (tB ⟨N+3,0,tD⟩) 6 6] 223)
  rw[World.size_alloc,World.size_alloc,World.size_alloc,World.size_alloc,d] at this;exact this
theorem A8 {r lb cap:bx}{T:bm Tok}{i k:bx}{e:Ex}{z:Tok}(d:bp)(w:World)(h:Rd r lb cap T i w)(G:fE T i e k)(J:T[k]?=tB z)(hs:dK z dO=tE):
  gd ac 272 #[tR (tB ⟨r,0,tD⟩),Z U (-1),Z U d] w λen w'=>en= ub (tW e.cells)/\bJ r lb cap T k w w':=by
 obtain⟨N,f⟩:=zE w.heap.size;have q:=rQ w N f;obtain⟨W1,u⟩:=zE (pW w N);rw[u] at q;unfold pW at u;have h1:=h.grow (show bh w.heap.size w W1 by rw[f];exact q.low);have v:=uR d W1 h1 G J hs;unfold Ex.cells at v⊢;have ud:=zH v;have va:r<N:=by rw[<-f];exact h.rlt
 have ue:cm (lb<N):=by unfold cm;rw[<-f];exact h.lt
 have ur:=zH u;have uc:=zH q;clear h G J hs u q h1 v;go_enter func272,ntmps272
 go_upto_region 2 with(fail)
 rw[ur.out]
 go_wp2_with (go_at_call 276;refine ud.out.mono ?_;rintro e w3 ⟨rfl,A⟩;have D:=A.2.heap uc.out.res (by omega);have uv:=zH A;have ux:=zH D;obtain⟨⟨p0,p1,p2,p3,p4,p5,p6⟩,⟨o0,o1,o2,o3,o4,o5,o6⟩,vc⟩:=dY D;clear A D)
 (try simp only[db,Exit.then]);refine dv (eI (P:=ac) rfl _ _ N 313 _ (0,0) _ rfl (gF ux.out) i5 rfl (by kernel_rfl)) rfl ?_;have hM:bJ r lb cap T k w w3:=bJ.grown (by rw[f];exact uc.out.low) uv.out;exact⟨rfl,hM.1.ext (cK _ _ _ _ _ _ _ _ _) (by omega) (by have:=ue.out;omega),hM.2.trans (cK _ _ _ _ _ _ _ _ _) (λk hk=> .inr (by omega))⟩
theorem iX {W:World}{b:bx}{l:bm aE}{d:da cd}{t:gx}(h:W.heap[b]?=tB (ua d t (0,0)))(f:d=(l.map fh).toArray):pU W b l:=λk x q=>by
 rw[cc _ _ _ _ _ _ h,f];simp[q]
theorem CP {w W:World}{N:bx}(h:xA w W N):∀(q:bx),q<3->pU W (N+1+q) (opsOf q)
 |0,_=>iX h.r0 rfl
 |1,_=>iX h.r1 rfl
 |2,_=>iX h.r2 rfl
theorem CQ {w W:World}{N:bx}(h:xA w W N):∀(q:bx),q<3->W.cell? ⟨N+4,q,tD⟩=tB (tP (tB ⟨N+1+q,0,tD⟩) (opsOf q).length (opsOf q).length)
 |0,_=>by rw[cc _ _ _ _ _ _ h.out];rfl
 |1,_=>by rw[cc _ _ _ _ _ _ h.out];rfl
 |2,_=>by rw[cc _ _ _ _ _ _ h.out];rfl
theorem GI {z:Tok}(d:dK z dO=tE):∀(q:bx),q<3->mZ z (opsOf q)=tG
 |0,_=>mO d (by decide)
 |1,_=>mO d (by decide)
 |2,_=>mO d (by decide)
theorem Fq:∀(q:bx),q<3->(opsOf q).length<=20
 |0,_=>by decide
 |1,_=>by decide
 |2,_=>by decide
theorem pU.ext {W W':World}{b:bx}{l:bm aE}{M:bx->Prop}(h:pU W b l)(d:Ext M W W')(f:b<W.heap.size)(q:¬M b):pU W' b l:=λk x u=>by
 rw[d.cell (a:=⟨b,k,tD⟩) f q];exact h k x u
theorem xB {r lb cap:bx}{T:bm Tok}{i k:bx}{e:Ex}{z:Tok}(q:bx)(J:q<3)(d:bp)(w:World)(h:Rd r lb cap T i w)(hl:fE T i e k)(hz:T[k]?=tB z)(hs:dK z dO=tE)
  (vd:∀W,Rd r lb cap T i W->gd ac 272 #[tR (tB ⟨r,0,tD⟩),Z U ((q:bp)-1),Z U d] W λen w'=>en= ub (tW e.cells)/\bJ r lb cap T k W w'):
  gd ac 272 #[tR (tB ⟨r,0,tD⟩),Z U (q:bp),Z U d] w λen w'=>en= ub (tW e.cells)/\bJ r lb cap T k w w':=by
 obtain⟨N,D⟩:=zE w.heap.size;have f:=rQ w N D;obtain⟨A,uc⟩:=zE (pW w N);rw[uc] at f;unfold pW at uc;have h1:=h.grow (show bh w.heap.size w A by rw[D];exact f.low);have ue:=vd A h1;have ur:∀W,Rd r lb cap T k W->Ext (·=r) A W->zP 260 #[tR (tB ⟨r,0,tD⟩),tP (tB ⟨N+1+q,0,tD⟩) (opsOf q).length (opsOf q).length] W (tU tG):=by
  intro W hW hx;have xt:=hx.size;have wi:=h.rlt;have wj:=f.size;have wk:=(CP f q J).ext hx (by omega) (by omega);have:=iy (N+1+q) (opsOf q).length (opsOf q) W hW hz (Fq q J) (by omega) wk
  rwa [GI hs q J] at this
 have uv:∀W,Ext (·=r) A W->W.cell? ⟨N+4,q,tD⟩=tB (tP (tB ⟨N+1+q,0,tD⟩) (opsOf q).length (opsOf q).length):=by
  intro W hx;have wi:=h.rlt;have wj:=f.size;rw[hx.cell (a:=⟨N+4,q,tD⟩) (by show N+4<_;omega) (by show¬N+4=r;omega)];exact CQ f q J
 obtain⟨OL,vf⟩:=zE ((opsOf q).length);rw[vf] at ur uv;unfold Ex.cells at ue⊢;have wl:=zH ue;have vh:=zH ur;have vi:=zH uv;have hst:∀(w:World)(c:da cd),c.size=7->(dr ⟨w.heap.size,0,tD⟩ [Z U e.kind,Z U e.n,tM e.nm,tM ⟨#[]⟩,tP tD 0 0,Z U e.ln,Z U e.cl] 0).run ac (w.alloc (ua c 313))= .ok () (w.alloc (ua #[Z U e.kind,Z U e.n,tM e.nm,tM ⟨#[]⟩,tP tD 0 0,Z U e.ln,Z U e.cl] 313)):=λw c hc=>
  ct (P:=ac) w 313 c #[Z U e.kind,Z U e.n,tM e.nm,tM ⟨#[]⟩,tP tD 0 0,Z U e.ln,Z U e.cl] (by show _=tB 7;kernel_rfl) hc (by simp[cj])
 have ws:=zH hst;have xF:r<N:=by rw[<-D];exact h.rlt
 have wx:cm (lb<N):=by unfold cm;rw[<-D];exact h.lt
 have xf:=zH uc;have ux:=zH f;have xT:(q:bp)<3:=by omega
 clear h hl hz hs uc f h1 ue ur uv hst vd vf;go_enter func272,ntmps272
 go_upto_region 2 with(fail)
 rw[xf.out]
 go_upto_region 5 with(go_at_call 272;refine wl.out.mono ?_;rintro e w3 ⟨rfl,vj⟩;have xj:=zH vj;have xl:=ws.out w3;clear vj)
 clear xl;obtain⟨G,hG⟩:=zE w3.heap.size;obtain⟨u,ud⟩:=zE (w3.alloc (ua #[Z U e.kind,Z U e.n,tM e.nm,tM ⟨#[]⟩,tP tD 0 0,Z U e.ln,Z U e.cl] 313));rw[hG,ud];have vm:=iq ud;have vp:bh w.heap.size w A:=by rw[D];exact ux.out.low
 have v:bJ r lb cap T k A u:=xj.out.grow vm;have vq:bJ r lb cap T k w u:=bJ.grown vp v;have vr:u.heap[G]?=tB (ua #[Z U e.kind,Z U e.n,tM e.nm,tM ⟨#[]⟩,tP tD 0 0,Z U e.ln,Z U e.cl] 313 (0,0)):=by rw[<-ud,<-hG];exact alloc_at _ _
 have vu:=v.2.heap ux.out.res (by omega);have xo:=zH (vh.out u v.1 v.2);have ya:=vi.out u v.2;have xp:=zH vq;have vx:=zH vr;have vy:=zH vu;have yb:N+4<u.heap.size:=ae (v.2.heap ux.out.out (by omega));clear hG ud vm vp v vq vr vu vh vi
 go_loopw [9] (λ_ wr=>wr=u) (λ_ _=>0)
 case atStart=>rfl
 case round=>
  obtain rfl:=hrel
  go_upto_region 11 with(go_at_call 260;refine xo.out.mono ?_;rintro e w5 ⟨rfl,we⟩;have va:=zH we;clear we)
  have wg:=(va.out.block G (ae vx.out)).trans vx.out;have vc:=(va.out.block N (ae vy.out)).trans vy.out;have xr:=zH vc;obtain⟨⟨g0,g1,g2,g3,g4,g5,g6⟩,_,yd⟩:=dY wg;obtain⟨⟨p0,p1,p2,p3,p4,p5,p6⟩,⟨o0,o1,o2,o3,o4,o5,o6⟩,ye⟩:=dY vc;clear wg vc;go_wp2;(try simp only[db,Exit.then]);refine dv (eI (P:=ac) rfl _ _ N 313 _ (0,0) _ rfl (gF xr.out) i5 rfl (by kernel_rfl)) rfl ?_;have hM:bJ r lb cap T k w w5:=xp.out.grow va.out;exact⟨rfl,hM.1.ext (cK _ _ _ _ _ _ _ _ _) (by omega) (by have:=wx.out;omega),hM.2.trans (cK _ _ _ _ _ _ _ _ _) (λk hk=> .inr (by omega))⟩
theorem ny {r lb cap:bx}{T:bm Tok}{i k:bx}{e:Ex}{z:Tok}(d:bp)(f:fE T i e k)(u:T[k]?=tB z)(v:dK z dO=tE):
  ∀(q:bx)(_:q<=3) (w:World) (_:Rd r lb cap T i w),gd ac 272 #[tR (tB ⟨r,0,tD⟩),Z U ((q:bp)-1),Z U d] w λA w'=>A= ub (tW e.cells)/\bJ r lb cap T k w w'
 |0,_,w,h=>A8 d w h f u v
 |q+1,G,w,h=>by
  have:=xB q (by omega) d w h f u v (λW D=>ny d f u v q (by omega) W D);rw[show((q+1:bx):bp)-1=(q:bp) by omega];exact this
theorem oo {r lb cap:bx}{T:bm Tok}{i k:bx}{e:Ex}{z:Tok}(d:bp)(w:World)(h:Rd r lb cap T i w)(G:fE T i e k)(J:T[k]?=tB z)(hs:dK z dO=tE):
  gd ac 263 #[tR (tB ⟨r,0,tD⟩),Z U d] w λen w'=>en= ub (tW e.cells)/\bJ r lb cap T k w w':=by
 obtain⟨N,f⟩:=zE w.heap.size;obtain⟨W1,q⟩:=zE (w.alloc (ua #[Z U 0,Z U 0,tM ⟨#[]⟩,tM ⟨#[]⟩,tP tD 0 0,Z U 0,Z U 0] 313));have v:=iV q f;have uc:W1.heap[N]?=tB (ua #[Z U 0,Z U 0,tM ⟨#[]⟩,tM ⟨#[]⟩,tP tD 0 0,Z U 0,Z U 0] 313 (0,0)):=by rw[<-q,<-f];exact alloc_at _ _
 have h1:=h.grow (by rw[f];exact v);have u:=ny d G J hs 3 (ce _) W1 h1;rw[show((3:bx):bp)-1=2 from rfl] at u;unfold Ex.cells at u⊢;have ud:=zH u;have vd:r<N:=by rw[<-f];exact h.rlt
 have ue:cm (lb<N):=by unfold cm;rw[<-f];exact h.lt
 have ur:=zH q;have uv:=zH v;have ux:=zH uc;clear h G J hs q v uc h1 u;go_enter func263,ntmps263
 go_wp2_with (go_at_call 272;rw[ur.out];refine ud.out.mono ?_;rintro e w3 ⟨rfl,A⟩;have D:=A.2.heap ux.out (by omega);have va:=zH A;have vc:=zH D;obtain⟨⟨p0,p1,p2,p3,p4,p5,p6⟩,⟨o0,o1,o2,o3,o4,o5,o6⟩,vf⟩:=dY D;clear A D)
 (try simp only[db,Exit.then]);refine dv (eI (P:=ac) rfl _ _ N 313 _ (0,0) _ rfl (gF vc.out) i5 rfl (by kernel_rfl)) rfl ?_;have hM:bJ r lb cap T k w w3:=bJ.grown (by rw[f];exact uv.out) va.out;exact⟨rfl,hM.1.ext (cK _ _ _ _ _ _ _ _ _) (by omega) (by have:=ue.out;omega),hM.2.trans (cK _ _ _ _ _ _ _ _ _) (λk hk=> .inr (by omega))⟩
structure Sm where
 kind:bp
 ty:Ty
 nm:aE
 E:cd
 ln:bp
 cl:bp
 es:bm Ex
def Sm.cells (s:Sm):da cd:=#[Z U s.kind,tU s.ty.1,tM s.ty.2,tM s.nm,s.E,tP tD 0 0,tP tD 0 0,Z U s.ln,Z U s.cl]
def IP (e:Ex):bm cd:=e.cells.toList
def Sm.inn (B:bx)(w:World)(s:Sm):Prop:=
 (s.es=[]/\s.E= tP tD 0 0)\/∃g cap,s.E= tP (tB ⟨g,0,tD⟩) s.es.length cap/\B<=g/\w.heap[g]?=tB (ua (s.es.flatMap IP).toArray 313 (0,0))
theorem Sm.inn.ext {B:bx}{w w':World}{s:Sm}{M:bx->Prop}(h:s.inn B w)(q:Ext M w w')(u:∀k,B<=k->k<w.heap.size->¬M k):s.inn B w':=by
 rcases h with h|⟨g,cap,v,d,f⟩
 ·exact .inl h
 ·exact .inr ⟨g,cap,v,d,q.heap f (u g d (ae f))⟩
theorem Sm.inn.mono {B d:bx}{w:World}{s:Sm}(h:s.inn B w)(f:d<=B):s.inn d w:=by
 rcases h with h|⟨g,cap,q,u,v⟩
 ·exact .inl h
 ·exact .inr ⟨g,cap,q,cY f u,v⟩
structure qD where
 kind:bp
 ty:Ty
 nm:aE
 es:bm Ex
def Sm.shp (s:Sm):qD:=⟨s.kind,s.ty,s.nm,s.es⟩
def ry:aE:=⟨#[114,101,116,117,114,110]⟩
def Cj:aE:=⟨#[102,114,101,101]⟩
def oq:aE:=⟨#[41]⟩
def Hl:aE:=⟨#[61]⟩
def iO (r lb cap:bx)(T:bm Tok)(w:World)(d:qD)(k:bx)(e:Ending)(w':World):Prop:=
 ∃s:Sm,e= ub (tW s.cells)/\s.shp=d/\s.inn w.heap.size w'/\bJ r lb cap T k w w'
theorem rR (l:bm UInt8):(⟨l.toArray⟩:aE).toList=l:=by rw[pi]
theorem xC {t:Tok}{s:aE}(h:dK t s=tE):t.text=s/\(t.kind=2\/t.kind=4):=by
 unfold dK at h;rw[eN,hU] at h;exact⟨eq_of_beq h.2,by rcases h.1 with h|h;exact .inl (eq_of_beq h);exact .inr (eq_of_beq h)⟩
theorem xD {r lb cap:bx}{T:bm Tok}{i k:bx}{t z:Tok}{e:Ex}(ln cl d:bp)(w:World)(h:Rd r lb cap T i w)(ht:T[i]?=tB t)(J:dK t ry=tE)(hl:fE T (i+1) e k)(hz:T[k]?=tB z)(hs:dK z dO=tE):
  gd ac 261 #[tR (tB ⟨r,0,tD⟩),tW #[Z U 0,tU tG,tM ⟨#[]⟩,tM ⟨#[]⟩,tP tD 0 0,tP tD 0 0,tP tD 0 0,Z U ln,Z U cl],Z U d] w (iO r lb cap T w ⟨8,bI,⟨#[]⟩,[e]⟩ (k+1)):=by
 obtain⟨N,q⟩:=zE w.heap.size;obtain⟨W1,v⟩:=zE ((w.alloc (ua #[Z U 0,tU tG,tM ⟨#[]⟩,tM ⟨#[]⟩,tP tD 0 0,tP tD 0 0,tP tD 0 0,Z U ln,Z U cl] 282)).alloc (ua #[Z U 0,tU tG,tM ⟨#[]⟩,tM ⟨#[]⟩,tP tD 0 0,tP tD 0 0,tP tD 0 0,Z U 0,Z U 0] 282));have vc:=uF v q;have vx:W1.heap.size=N+2:=by rw[<-v];simp[q]
 have vy:=yP v q;have we:=AO v q;have h1:=h.grow (by rw[q];exact vc);have wg:=zH (bE W1 h1 ht);have vd:∀W,Rd r lb cap T (i+1) W->gd ac 263 #[tR (tB ⟨r,0,tD⟩),Z U d] W λen w'=>en= ub (tW e.cells)/\bJ r lb cap T k W w':=λW hW=>oo d W hW hl hz hs;unfold Ex.cells at vd;have yd:=zH vd;have wi:cm (∀W,Rd r lb cap T k W->gd ac 207 #[tR (tB ⟨r,0,tD⟩),tM dO] W λe w'=>e= ub (.tuple #[])/\bJ r lb cap T (k+1) W w'):=λW hW=>aY dO W hW hz hs;unfold dO at wi;obtain⟨vf,_⟩:=xC J;obtain⟨f,A⟩:=zE t.text;have hst:∀(w:World)(c:da cd),c.size=5->(dr ⟨w.heap.size,0,tD⟩ [Z U t.kind,tM f,Z U t.n,Z U t.ln,Z U t.cl] 0).run ac (w.alloc (ua c 263))= .ok () (w.alloc (ua #[Z U t.kind,tM f,Z U t.n,Z U t.ln,Z U t.cl] 263)):=λw c hc=>
  ct (P:=ac) w 263 c #[Z U t.kind,tM f,Z U t.n,Z U t.ln,Z U t.cl] (by show _=tB 5;kernel_rfl) hc (by simp[cj])
 have ye:=zH hst;simp only[Tok.cells,A] at wg;rw[A] at vf;have D:f.toList=[114,101,116,117,114,110]:=by rw[vf];exact rR [114,101,116,117,114,110]
 have x1:(f.toList==[105,102])=tG:=by rw[D];rfl
 have x2:(f.toList==[119,104,105,108,101])=tG:=by rw[D];rfl
 have x3:(f.toList==[98,114,101,97,107])=tG:=by rw[D];rfl
 have x4:(f.toList==[99,111,110,116,105,110,117,101])=tG:=by rw[D];rfl
 have x5:(f.toList==[114,101,116,117,114,110])=tE:=by rw[D];rfl
 have Ax:i<T.length:=(ap.1 ht).1;have hT:=h.short;have AD:r<N:=by rw[<-q];exact h.rlt
 have vh:cm (lb<N):=by unfold cm;rw[<-q];exact h.lt
 have yi:=zH v;have yk:=zH vc;have ur:=zH vx;have yp:=zH vy;have yq:=zH we;have H1:=zH h1;clear h ht J hl hz hs v vc vx vy we h1 vd vf A hst D;go_enter func261,ntmps261
 go_upto_region 2 with(go_at_call 170;rw[yi.out];refine wg.out.mono ?_;rintro e w2 ⟨rfl,wj⟩;have yr:=ye.out w2;have wk:=zH wj;clear wj)
 clear yr;obtain⟨G,hG⟩:=zE w2.heap.size;obtain⟨u,uv⟩:=zE (w2.alloc (ua #[Z U t.kind,tM f,Z U t.n,Z U t.ln,Z U t.cl] 263));rw[hG,uv];have uc:=zD uv wk;have AE:N+2<=G:=by rw[<-hG,<-ur.out];exact wk.out.size
 have wl:u.heap[G]?=tB (ua #[Z U t.kind,tM f,Z U t.n,Z U t.ln,Z U t.cl] 263 (0,0)):=by rw[<-uv,<-hG];exact alloc_at _ _
 obtain⟨⟨g0,g1,g2,g3,g4⟩,_,AF⟩:=fF wl;have vi:=(uc.block N (by have:=ur.out;omega)).trans yp.out;have ws:=(uc.block (N+1) (by have:=ur.out;omega)).trans yq.out;obtain⟨⟨a0,a1,a2,a3,a4,a5,a6,a7,a8⟩,⟨b0,b1,b2,b3,b4,b5,b6,b7,b8⟩,yv⟩:=fQ vi;have h3:=H1.out.grow uc;obtain⟨c0,c1,c3,f1,hr⟩:=h3.cells;have yy:=zH uc;have yW:=zH vi;have zc:=zH ws;have H3:=zH h3;clear hG uv uc wl vi ws h3
 go_upto_region 23 with(fail)
 obtain⟨W4,ud⟩:=zE ((u.setCell ⟨r,1,tD⟩ (Z U ((i:bp)+1))).setCell ⟨N,0,tD⟩ (Z U 8));rw[ud];have wx:bJ r lb cap T (i+1) w W4:=by
  have a:bJ r lb cap T (i+1) u (u.setCell ⟨r,1,tD⟩ (Z U ((i:bp)+1))):=⟨H3.out.step,Ext.set1 u r 1 _⟩
  have A:Ext (·=N) (u.setCell ⟨r,1,tD⟩ (Z U ((i:bp)+1))) W4:=by rw[<-ud];exact ah (Ext.refl _ _) _
  have zd:bh w.heap.size w u:=by rw[q];exact yk.out.trans (yy.out.mono (by rw[ur.out];omega))
  exact⟨a.1.ext A (by omega) (by have:=vh.out;omega),(bJ.grown zd a).2.trans A (λk J=> .inr (by omega))⟩
 have xf:W4.heap[N]?=tB (ua #[Z U 8,tU tG,tM ⟨#[]⟩,tM ⟨#[]⟩,tP tD 0 0,tP tD 0 0,tP tD 0 0,Z U ln,Z U cl] 282 (0,0)):=by
  rw[<-ud];exact bk _ N 0 _ _ _ ((dl _ _ _ N (by show N≠r;omega)).trans yW.out)
 have xj:W4.heap[N+1]?=tB (ua #[Z U 0,tU tG,tM ⟨#[]⟩,tM ⟨#[]⟩,tP tD 0 0,tP tD 0 0,tP tD 0 0,Z U 0,Z U 0] 282 (0,0)):=by
  rw[<-ud];exact(dl _ _ _ (N+1) (by show N+1≠N;omega)).trans ((dl _ _ _ (N+1) (by show N+1≠r;omega)).trans zc.out)
 have xl:=zH wx;have zj:=zH xf;have xo:=zH xj;clear ud wx xf xj a0 a1 a2 a3 a4 a5 a6 a7 a8 b0 b1 b2 b3 b4 b5 b6 b7 b8 c0 c1 c3 f1 hr g0 g1 g2 g3 g4 yv
 go_upto_region 34 with(go_at_call 263;refine(yd.out W4 xl.out.1).mono ?_;rintro e w5 ⟨rfl,vj⟩;have vm:=zH vj;have vp:=vj.2.heap zj.out (by omega);have zp:=zH vp;obtain⟨⟨a0,a1,a2,a3,a4,a5,a6,a7,a8⟩,⟨b0,b1,b2,b3,b4,b5,b6,b7,b8⟩,zr⟩:=fQ vp;clear vj vp)
 obtain⟨Q,hQ⟩:=zE w5.heap.size;rw[hQ];obtain⟨W6,ue⟩:=zE ((w5.setCell ⟨N,4,tD⟩ (tP (tB ⟨Q,0,tD⟩) 1 1)).alloc (ua #[Z U e.kind,Z U e.n,tM e.nm,tM ⟨#[]⟩,tP tD 0 0,Z U e.ln,Z U e.cl] 313));rw[ue];have ux:Ext (·=N) w5 W6:=by rw[<-ue];exact(ah (Ext.refl _ _) _).alloc _
 have AG:N+1<Q:=by rw[<-hQ];exact ae (vm.out.2.heap xo.out (by omega))
 have xp:W6.heap[Q]?=tB (ua #[Z U e.kind,Z U e.n,tM e.nm,tM ⟨#[]⟩,tP tD 0 0,Z U e.ln,Z U e.cl] 313 (0,0)):=by
  have:=alloc_at (w5.setCell ⟨N,4,tD⟩ (tP (tB ⟨Q,0,tD⟩) 1 1)) (ua #[Z U e.kind,Z U e.n,tM e.nm,tM ⟨#[]⟩,tP tD 0 0,Z U e.ln,Z U e.cl] 313);rw[World.size_setCell,hQ,ue] at this;exact this
 have xr:W6.heap[N]?=tB (ua #[Z U 8,tU tG,tM ⟨#[]⟩,tM ⟨#[]⟩,tP (tB ⟨Q,0,tD⟩) 1 1,tP tD 0 0,tP tD 0 0,Z U ln,Z U cl] 282 (0,0)):=by
  rw[<-ue];exact(cn _ _ N (by rw[World.size_setCell];omega)).trans (bk _ N 4 _ _ _ zp.out)
 have xt:=ux.heap (vm.out.2.heap xo.out (by omega)) (show¬N+1=N by omega);have vq:=xl.out.trans vm.out;have xF:bJ r lb cap T k w W6:=⟨vq.1.ext ux (by omega) (by have:=vh.out;omega),vq.2.trans ux (λk J=> .inr (by omega))⟩
 have xT:=zH xF;have zv:=zH xp;have An:=zH xr;have As:=zH xt;clear hQ ue ux xp xr xt vq xF a0 a1 a2 a3 a4 a5 a6 a7 a8 b0 b1 b2 b3 b4 b5 b6 b7 b8 zr
 go_wp2_with (go_at_call 207;refine(wi.out W6 xT.out.1).mono ?_;rintro e w7 ⟨rfl,va⟩;have ya:=zH va;have yb:=va.2.heap An.out (by omega);have vr:=va.2.heap As.out (by omega);have At:=zH vr;obtain⟨⟨a0,a1,a2,a3,a4,a5,a6,a7,a8⟩,⟨b0,b1,b2,b3,b4,b5,b6,b7,b8⟩,AH⟩:=fQ yb;obtain⟨⟨p0,p1,p2,p3,p4,p5,p6,p7,p8⟩,⟨q0,q1,q2,q3,q4,q5,q6,q7,q8⟩,AI⟩:=fQ vr;clear va yb vr)
 (try simp only[db,Exit.then]);refine dv (eI (P:=ac) rfl _ _ (N+1) 282 _ (0,0) _ rfl (lX At.out) mS rfl (by kernel_rfl)) rfl ?_;have hM:=xT.out.trans ya.out;have vu:=lY w7 (N+1) (Z U 8) (tU tG) (tM ⟨#[]⟩) (tM ⟨#[]⟩) (tP (tB ⟨Q,0,tD⟩) 1 1) (tP tD 0 0) (tP tD 0 0) (Z U ln) (Z U cl);refine⟨⟨8,bI,⟨#[]⟩,tP (tB ⟨Q,0,tD⟩) 1 1,ln,cl,[e]⟩,rfl,rfl,.inr ⟨Q,1,rfl,by omega, ?_⟩,hM.1.ext vu (by omega) (by have:=vh.out;omega),hM.2.trans vu (λk J=> .inr (by omega))⟩;exact vu.heap (ya.out.2.heap zv.out (by omega)) (by omega)
theorem uS {r lb cap:bx}{T:bm Tok}{i:bx}{t u x v z:Tok}(ln cl d:bp)(w:World)(h:Rd r lb cap T i w)(ht:T[i]?=tB t)(hk:dK t Cj=tE)(hu:T[i+1]?=tB u)(vy:dK u fD=tE)(we:T[i+2]?=tB x)(wg:x.kind=1)(hv:T[i+3]?=tB v)(wi:dK v oq=tE)(hz:T[i+4]?=tB z)(hs:dK z dO=tE):
  gd ac 261 #[tR (tB ⟨r,0,tD⟩),tW #[Z U 0,tU tG,tM ⟨#[]⟩,tM ⟨#[]⟩,tP tD 0 0,tP tD 0 0,tP tD 0 0,Z U ln,Z U cl],Z U d] w (iO r lb cap T w ⟨9,bI,x.text,[]⟩ (i+5)):=by
 obtain⟨N,q⟩:=zE w.heap.size;obtain⟨W1,uc⟩:=zE ((w.alloc (ua #[Z U 0,tU tG,tM ⟨#[]⟩,tM ⟨#[]⟩,tP tD 0 0,tP tD 0 0,tP tD 0 0,Z U ln,Z U cl] 282)).alloc (ua #[Z U 0,tU tG,tM ⟨#[]⟩,tM ⟨#[]⟩,tP tD 0 0,tP tD 0 0,tP tD 0 0,Z U 0,Z U 0] 282));have vi:=uF uc q;have wj:W1.heap.size=N+2:=by rw[<-uc];simp[q]
 have wk:=yP uc q;have wl:=AO uc q;have h1:=h.grow (by rw[q];exact vi);have ws:=zH (bE W1 h1 ht);have wx:cm (∀W,Rd r lb cap T (i+1) W->gd ac 207 #[tR (tB ⟨r,0,tD⟩),tM fD] W λe w'=>e= ub (.tuple #[])/\bJ r lb cap T (i+2) W w'):=λW A=>aY fD W A hu vy;have xf:cm (∀W,Rd r lb cap T (i+3) W->gd ac 207 #[tR (tB ⟨r,0,tD⟩),tM oq] W λe w'=>e= ub (.tuple #[])/\bJ r lb cap T (i+4) W w'):=λW A=>aY oq W A hv wi;have xj:cm (∀W,Rd r lb cap T (i+4) W->gd ac 207 #[tR (tB ⟨r,0,tD⟩),tM dO] W λe w'=>e= ub (.tuple #[])/\bJ r lb cap T (i+5) W w'):=λW A=>aY dO W A hz hs;have yq:cm (∀W,Rd r lb cap T (i+2) W->gd ac 208 #[tR (tB ⟨r,0,tD⟩)] W λe w'=>e= ub (.tuple #[tM x.text,tW #[Z U x.ln,Z U x.cl]])/\bJ r lb cap T (i+3) W w'):=λW A=>dZ W A we wg;unfold fD at wx;unfold oq at xf;unfold dO at xj;obtain⟨vj,_⟩:=xC hk;obtain⟨f,hx⟩:=zE t.text;have hst:∀(w:World)(c:da cd),c.size=5->(dr ⟨w.heap.size,0,tD⟩ [Z U t.kind,tM f,Z U t.n,Z U t.ln,Z U t.cl] 0).run ac (w.alloc (ua c 263))= .ok () (w.alloc (ua #[Z U t.kind,tM f,Z U t.n,Z U t.ln,Z U t.cl] 263)):=λw c hc=>
  ct (P:=ac) w 263 c #[Z U t.kind,tM f,Z U t.n,Z U t.ln,Z U t.cl] (by show _=tB 5;kernel_rfl) hc (by simp[cj])
 have yr:=zH hst;simp only[Tok.cells,hx] at ws;rw[hx] at vj;have D:f.toList=[102,114,101,101]:=by rw[vj];exact rR [102,114,101,101]
 have x1:(f.toList==[105,102])=tG:=by rw[D];rfl
 have x2:(f.toList==[119,104,105,108,101])=tG:=by rw[D];rfl
 have x3:(f.toList==[98,114,101,97,107])=tG:=by rw[D];rfl
 have x4:(f.toList==[99,111,110,116,105,110,117,101])=tG:=by rw[D];rfl
 have x5:(f.toList==[114,101,116,117,114,110])=tG:=by rw[D];rfl
 have x6:(f.toList==[102,114,101,101])=tE:=by rw[D];rfl
 have AI:i<T.length:=(ap.1 ht).1;have hT:=h.short;have AK:r<N:=by rw[<-q];exact h.rlt
 have vm:cm (lb<N):=by unfold cm;rw[<-q];exact h.lt
 have yv:=zH uc;have yy:=zH vi;have ux:=zH wj;have yW:=zH wk;have zc:=zH wl;have H1:=zH h1;clear h ht hk hu vy we wg hv wi hz hs uc vi wj wk wl h1 vj hx hst D;go_enter func261,ntmps261
 go_upto_region 2 with(go_at_call 170;rw[yv.out];refine ws.out.mono ?_;rintro e w2 ⟨rfl,xl⟩;have zd:=yr.out w2;have xo:=zH xl;clear xl)
 clear zd;obtain⟨G,hG⟩:=zE w2.heap.size;obtain⟨J,va⟩:=zE (w2.alloc (ua #[Z U t.kind,tM f,Z U t.n,Z U t.ln,Z U t.cl] 263));rw[hG,va];have ue:=zD va xo;have AM:N+2<=G:=by rw[<-hG,<-ux.out];exact xo.out.size
 have xp:J.heap[G]?=tB (ua #[Z U t.kind,tM f,Z U t.n,Z U t.ln,Z U t.cl] 263 (0,0)):=by rw[<-va,<-hG];exact alloc_at _ _
 obtain⟨⟨g0,g1,g2,g3,g4⟩,_,AN⟩:=fF xp;have vp:=(ue.block N (by have:=ux.out;omega)).trans yW.out;have xr:=(ue.block (N+1) (by have:=ux.out;omega)).trans zc.out;obtain⟨⟨a0,a1,a2,a3,a4,a5,a6,a7,a8⟩,⟨b0,b1,b2,b3,b4,b5,b6,b7,b8⟩,zj⟩:=fQ vp;have h3:=H1.out.grow ue;obtain⟨c0,c1,c3,f1,hr⟩:=h3.cells;have zp:=zH ue;have zr:=zH vp;have zv:=zH xr;have H3:=zH h3;clear hG va ue xp vp xr h3
 go_upto_region 26 with(fail)
 obtain⟨W4,ur⟩:=zE ((J.setCell ⟨r,1,tD⟩ (Z U ((i:bp)+1))).setCell ⟨N,0,tD⟩ (Z U 9));rw[ur];have xt:bJ r lb cap T (i+1) w W4:=by
  have a:bJ r lb cap T (i+1) J (J.setCell ⟨r,1,tD⟩ (Z U ((i:bp)+1))):=⟨H3.out.step,Ext.set1 J r 1 _⟩
  have hx:Ext (·=N) (J.setCell ⟨r,1,tD⟩ (Z U ((i:bp)+1))) W4:=by rw[<-ur];exact ah (Ext.refl _ _) _
  have An:bh w.heap.size w J:=by rw[q];exact yy.out.trans (zp.out.mono (by rw[ux.out];omega))
  exact⟨a.1.ext hx (by omega) (by have:=vm.out;omega),(bJ.grown An a).2.trans hx (λk hk=> .inr (by omega))⟩
 have xF:W4.heap[N]?=tB (ua #[Z U 9,tU tG,tM ⟨#[]⟩,tM ⟨#[]⟩,tP tD 0 0,tP tD 0 0,tP tD 0 0,Z U ln,Z U cl] 282 (0,0)):=by
  rw[<-ur];exact bk _ N 0 _ _ _ ((dl _ _ _ N (by show N≠r;omega)).trans zr.out)
 have xT:W4.heap[N+1]?=tB (ua #[Z U 0,tU tG,tM ⟨#[]⟩,tM ⟨#[]⟩,tP tD 0 0,tP tD 0 0,tP tD 0 0,Z U 0,Z U 0] 282 (0,0)):=by
  rw[<-ur];exact(dl _ _ _ (N+1) (by show N+1≠N;omega)).trans ((dl _ _ _ (N+1) (by show N+1≠r;omega)).trans zv.out)
 have ya:=zH xt;have As:=zH xF;have At:=zH xT;clear ur xt xF xT a0 a1 a2 a3 a4 a5 a6 a7 a8 b0 b1 b2 b3 b4 b5 b6 b7 b8 c0 c1 c3 f1 hr g0 g1 g2 g3 g4 zj
 go_upto_region 27 with(go_at_call 207;refine(wx.out W4 ya.out.1).mono ?_;rintro e w5 ⟨rfl,yb⟩;have vq:=zH yb;clear yb)
 go_upto_region 28 with(go_at_call 208;refine(yq.out w5 vq.out.1).mono ?_;rintro e w6 ⟨rfl,vr⟩;have yd:=zH (vq.out.trans vr);have vu:=(vq.out.trans vr).2.heap As.out (by omega);have Ax:=zH vu;obtain⟨⟨a0,a1,a2,a3,a4,a5,a6,a7,a8⟩,⟨b0,b1,b2,b3,b4,b5,b6,b7,b8⟩,AD⟩:=fQ vu;clear vr vu)
 obtain⟨W7,vc⟩:=zE (w6.setCell ⟨N,3,tD⟩ (tM x.text));rw[vc];have vd:Ext (·=N) w6 W7:=by rw[<-vc];exact ah (Ext.refl _ _) _
 have uv:W7.heap[N]?=tB (ua #[Z U 9,tU tG,tM ⟨#[]⟩,tM x.text,tP tD 0 0,tP tD 0 0,tP tD 0 0,Z U ln,Z U cl] 282 (0,0)):=by
  rw[<-vc];exact bk _ N 3 _ _ _ Ax.out
 have ud:=vd.heap (yd.out.2.heap At.out (by omega)) (show¬N+1=N by omega);have vx:=ya.out.trans yd.out;have ye:bJ r lb cap T (i+3) w W7:=⟨vx.1.ext vd (by omega) (by have:=vm.out;omega),vx.2.trans vd (λk hk=> .inr (by omega))⟩
 have yi:=zH ye;have AE:=zH uv;have AF:=zH ud;clear vc vd uv ud vx ye a0 a1 a2 a3 a4 a5 a6 a7 a8 b0 b1 b2 b3 b4 b5 b6 b7 b8 AD
 go_upto_region 34 with(go_at_call 207;refine(xf.out W7 yi.out.1).mono ?_;rintro e w8 ⟨rfl,yk⟩;have vf:=zH yk;clear yk)
 go_wp2_with (go_at_call 207;refine(xj.out w8 vf.out.1).mono ?_;rintro e w9 ⟨rfl,vh⟩;have AG:=zH (vf.out.trans vh);have uv:=(vf.out.trans vh).2.heap AE.out (by omega);have ud:=(vf.out.trans vh).2.heap AF.out (by omega);have AH:=zH ud;obtain⟨⟨a0,a1,a2,a3,a4,a5,a6,a7,a8⟩,⟨b0,b1,b2,b3,b4,b5,b6,b7,b8⟩,AS⟩:=fQ uv;obtain⟨⟨p0,p1,p2,p3,p4,p5,p6,p7,p8⟩,⟨q0,q1,q2,q3,q4,q5,q6,q7,q8⟩,AT⟩:=fQ ud;clear vh uv ud)
 (try simp only[db,Exit.then]);refine dv (eI (P:=ac) rfl _ _ (N+1) 282 _ (0,0) _ rfl (lX AH.out) mS rfl (by kernel_rfl)) rfl ?_;have hM:=yi.out.trans AG.out;have yp:=lY w9 (N+1) (Z U 9) (tU tG) (tM ⟨#[]⟩) (tM x.text) (tP tD 0 0) (tP tD 0 0) (tP tD 0 0) (Z U ln) (Z U cl);exact⟨⟨9,bI,x.text,tP tD 0 0,ln,cl,[]⟩,rfl,rfl,.inl ⟨rfl,rfl⟩,hM.1.ext yp (by omega) (by have:=vm.out;omega),hM.2.trans yp (λk hk=> .inr (by omega))⟩
def kJ:bm aE:=[⟨#[105,102]⟩,⟨#[119,104,105,108,101]⟩,⟨#[98,114,101,97,107]⟩,⟨#[99,111,110,116,105,110,117,101]⟩,⟨#[114,101,116,117,114,110]⟩,⟨#[102,114,101,101]⟩,⟨#[112,117,116]⟩]
theorem wh {t:Tok}{s:aE}{l:bm aE}(h:dK t s=tE)(d:s∈l):mZ t l=tE:=by
 unfold mZ;rw[kq];exact⟨s,d,h⟩
theorem Sm.inn.slice {B:bx}{w:World}{s:Sm}(h:s.inn B w):∃d n c,s.E= tP d n c:=by
 rcases h with h|⟨g,cap,f,_⟩
 ·exact⟨_,_,_,h.2⟩
 ·exact⟨_,_,_,f⟩
theorem A9 {r lb cap:bx}{T:bm Tok}{i:bx}{k:bx}{t z:Tok}{e:Ex}(d:bp)(w:World)(h:Rd r lb cap T i w)(A:T[i]?=tB t)(hk:dK t ry=tE)(hl:fE T (i+1) e k)(hz:T[k]?=tB z)(hs:dK z dO=tE):
  gd ac 243 #[tR (tB ⟨r,0,tD⟩),Z U d] w (iO r lb cap T w ⟨8,bI,⟨#[]⟩,[e]⟩ (k+1)):=by
 obtain⟨N,f⟩:=zE w.heap.size;obtain⟨q,D⟩:=zE (w.alloc (ua #[Z U 0,tU tG,tM ⟨#[]⟩,tM ⟨#[]⟩,tP tD 0 0,tP tD 0 0,tP tD 0 0,Z U 0,Z U 0] 282));have uv:=iV D f;have vx:q.heap.size=N+1:=by rw[<-D];simp[f]
 have vy:q.heap[N]?=tB (ua #[Z U 0,tU tG,tM ⟨#[]⟩,tM ⟨#[]⟩,tP tD 0 0,tP tD 0 0,tP tD 0 0,Z U 0,Z U 0] 282 (0,0)):=by rw[<-D,<-f];exact alloc_at _ _
 have u:=h.grow (by rw[f];exact uv);have ux:=zH (bE q u A);have we:cm (∀W,bh q.heap.size q W->zS 171 #[tR (tB ⟨r,0,tD⟩)] W (tU tG)):=λW J=>bB W (u.grow J);have va:cm (∀(b:bx) W,bh q.heap.size q W->b<W.heap.size->W.heap[b]?=tB (ua #[tM ⟨#[105,102]⟩,tM ⟨#[119,104,105,108,101]⟩,tM ⟨#[98,114,101,97,107]⟩,tM ⟨#[99,111,110,116,105,110,117,101]⟩,tM ⟨#[114,101,116,117,114,110]⟩,tM ⟨#[102,114,101,101]⟩,tM ⟨#[112,117,116]⟩] 9 (0,0))->zP 260 #[tR (tB ⟨r,0,tD⟩),tP (tB ⟨b,0,tD⟩) 7 7] W (tU (mZ t kJ))):=λb W J hb hr=>iy b 7 kJ W (u.grow J) A (by decide) hb (iX hr rfl);rw[wh hk (show ry∈kJ by decide)] at va;have yd:cm (∀W,Rd r lb cap T i W->gd ac 261 #[tR (tB ⟨r,0,tD⟩),tW #[Z U 0,tU tG,tM ⟨#[]⟩,tM ⟨#[]⟩,tP tD 0 0,tP tD 0 0,tP tD 0 0,Z U t.ln,Z U t.cl],Z U d] W (iO r lb cap T W ⟨8,bI,⟨#[]⟩,[e]⟩ (k+1))):=λW J=>xD _ _ d W J A hk hl hz hs;simp only[Tok.cells] at ux;have hst:∀(w:World)(c:da cd),c.size=5->(dr ⟨w.heap.size,0,tD⟩ [Z U t.kind,tM t.text,Z U t.n,Z U t.ln,Z U t.cl] 0).run ac (w.alloc (ua c 263))= .ok () (w.alloc (ua #[Z U t.kind,tM t.text,Z U t.n,Z U t.ln,Z U t.cl] 263)):=λw c hc=>
  ct (P:=ac) w 263 c #[Z U t.kind,tM t.text,Z U t.n,Z U t.ln,Z U t.cl] (by show _=tB 5;kernel_rfl) hc (by simp[cj])
 have wg:∀(w:World)(c:da cd),c.size=9->(dr ⟨w.heap.size,0,tD⟩ [Z U 0,tU tG,tM ⟨#[]⟩,tM ⟨#[]⟩,tP tD 0 0,tP tD 0 0,tP tD 0 0,Z U t.ln,Z U t.cl] 0).run ac (w.alloc (ua c 282))= .ok () (w.alloc (ua #[Z U 0,tU tG,tM ⟨#[]⟩,tM ⟨#[]⟩,tP tD 0 0,tP tD 0 0,tP tD 0 0,Z U t.ln,Z U t.cl] 282)):=λw c hc=>
  ct (P:=ac) w 282 c #[Z U 0,tU tG,tM ⟨#[]⟩,tM ⟨#[]⟩,tP tD 0 0,tP tD 0 0,tP tD 0 0,Z U t.ln,Z U t.cl] (by show _=tB 9;kernel_rfl) hc (by simp[cj])
 have ye:=zH hst;have yi:=zH wg;have AF:i<T.length:=(ap.1 A).1;have hT:=h.short;have AG:r<N:=by rw[<-f];exact h.rlt
 have yk:cm (lb<N):=by unfold cm;rw[<-f];exact h.lt
 have yp:=zH D;have wi:=zH uv;have ue:=zH vx;have yq:=zH vy;have H1:=zH u;clear h A hst wg D uv vx vy u hk hl hz hs;go_enter func243,ntmps243
 go_upto_region 2 with(go_at_call 170;rw[yp.out];refine ux.out.mono ?_;rintro e w2 ⟨rfl,wj⟩;have yr:=ye.out w2;have wk:=zH wj;clear wj)
 clear yr;obtain⟨G,hG⟩:=zE w2.heap.size;obtain⟨W3,uc⟩:=zE (w2.alloc (ua #[Z U t.kind,tM t.text,Z U t.n,Z U t.ln,Z U t.cl] 263));rw[hG,uc];have wl:=zD uc wk;have vc:W3.heap.size=G+1:=by rw[<-uc,<-hG];simp
 have AH:N+1<=G:=by rw[<-hG,<-ue.out];exact wk.out.size
 have vd:W3.heap[G]?=tB (ua #[Z U t.kind,tM t.text,Z U t.n,Z U t.ln,Z U t.cl] 263 (0,0)):=by rw[<-uc,<-hG];exact alloc_at _ _
 obtain⟨⟨g0,g1,g2,g3,g4⟩,_,AI⟩:=fF vd;have ws:=yi.out W3;have yv:=zH wl;have yy:=zH vd;clear hG uc wl vd;rw[vc] at ws
 go_upto_region 4 with(fail)
 clear ws;obtain⟨W4,v⟩:=zE (W3.alloc (ua #[Z U 0,tU tG,tM ⟨#[]⟩,tM ⟨#[]⟩,tP tD 0 0,tP tD 0 0,tP tD 0 0,Z U t.ln,Z U t.cl] 282));rw[v];have ud:=zD v yv;have yW:W4.heap.size=G+2:=by rw[<-v];simp[vc]
 have wx:W4.heap[G+1]?=tB (ua #[Z U 0,tU tG,tM ⟨#[]⟩,tM ⟨#[]⟩,tP tD 0 0,tP tD 0 0,tP tD 0 0,Z U t.ln,Z U t.cl] 282 (0,0)):=by rw[<-v,<-vc];exact alloc_at _ _
 have xf:W4.heap[G]?=tB (ua #[Z U t.kind,tM t.text,Z U t.n,Z U t.ln,Z U t.cl] 263 (0,0)):=by rw[<-v];exact(cn _ _ G (by omega)).trans yy.out
 have xj:=(ud.block N (by have:=ue.out;omega)).trans yq.out;obtain⟨W5,ur⟩:=zE (W4.alloc (ua #[tM ⟨#[105,102]⟩,tM ⟨#[119,104,105,108,101]⟩,tM ⟨#[98,114,101,97,107]⟩,tM ⟨#[99,111,110,116,105,110,117,101]⟩,tM ⟨#[114,101,116,117,114,110]⟩,tM ⟨#[102,114,101,101]⟩,tM ⟨#[112,117,116]⟩] 9));have vf:=iq ur;have vh:=ud.trans (vf.mono ud.size);have vi:W5.heap[G+2]?=tB (ua #[tM ⟨#[105,102]⟩,tM ⟨#[119,104,105,108,101]⟩,tM ⟨#[98,114,101,97,107]⟩,tM ⟨#[99,111,110,116,105,110,117,101]⟩,tM ⟨#[114,101,116,117,114,110]⟩,tM ⟨#[102,114,101,101]⟩,tM ⟨#[112,117,116]⟩] 9 (0,0)):=by rw[<-ur,<-yW];exact alloc_at _ _
 have zc:=zH (we.out W4 ud);have zd:=zH (va.out (G+2) W5 vh (ae vi) vi);have zj:=zH ur;have xl:=zH vf;have xo:=zH vh;have zp:=zH wx;have AK:=zH xf;have zr:=zH xj;clear v ud wx xf xj ur vf vh vi we ux va g0 g1 g2 g3 g4
 go_upto_region 7 with(first
  |(go_at_call 171;refine zc.out.mono ?_;rintro e w5 ⟨rfl,rfl⟩)
  |(go_at_call 260;(try rw[zj.out]);refine zd.out.mono ?_;rintro e w6 ⟨rfl,xp⟩;have xr:=zH xp;clear xp))
 have vj:=xl.out.trans (xr.out.mono xl.out.size);have vm:=xo.out.trans (xr.out.mono xo.out.size);have h6:=H1.out.grow vm;have xt:=(vj.block (G+1) (by omega)).trans zp.out;have xF:=(vj.block N (by omega)).trans zr.out;obtain⟨⟨a0,a1,a2,a3,a4,a5,a6,a7,a8⟩,_,AM⟩:=fQ xt;have zv:=zH (yd.out w6 h6);have xT:=zH vm;have ya:=zH xF;clear vj vm h6 xt xF
 go_wp2_with (go_at_call 261;refine zv.out.mono ?_;rintro e w7 ⟨s,rfl,yb,vp,vq⟩;obtain⟨An,en,ec,hE⟩:=vp.slice;have HE:=zH hE;have As:=zH yb;have At:=zH vp;have Ax:=zH vq;have vr:=vq.2.heap ya.out (by omega);have AD:=zH vr;obtain⟨⟨p0,p1,p2,p3,p4,p5,p6,p7,p8⟩,⟨q0,q1,q2,q3,q4,q5,q6,q7,q8⟩,AN⟩:=fQ vr;unfold Sm.cells;rw[hE];clear yb vp vq vr hE)
 (try simp only[db,Exit.then]);refine dv (eI (P:=ac) rfl _ _ N 282 _ (0,0) _ rfl (lX AD.out) mS rfl (by kernel_rfl)) rfl ?_;have vu:=lY w7 N (Z U s.kind) (tU s.ty.1) (tM s.ty.2) (tM s.nm) (tP An en ec) (tP tD 0 0) (tP tD 0 0) (Z U s.ln) (Z U s.cl);have AE:w.heap.size<=w6.heap.size:=(wi.out.trans (xT.out.mono (by rw[ue.out];omega))).size;have AS:N<w6.heap.size:=ae ya.out;have hM:bJ r lb cap T (k+1) w w7:=bJ.grown (show bh w.heap.size w w6 by rw[f];exact wi.out.trans (xT.out.mono (by rw[ue.out];omega))) Ax.out;exact⟨s,by unfold Sm.cells;rw[HE.out],As.out,(At.out.ext vu (λk u h2 e=>by omega)).mono AE,hM.1.ext vu (by omega) (by have:=yk.out;omega),hM.2.trans vu (λk hk=> .inr (by omega))⟩
theorem yZ {r lb cap:bx}{T:bm Tok}{i:bx}{t u x v z:Tok}(d:bp)(w:World)(h:Rd r lb cap T i w)(J:T[i]?=tB t)(hk:dK t Cj=tE)(hu:T[i+1]?=tB u)(vy:dK u fD=tE)(we:T[i+2]?=tB x)(wg:x.kind=1)(hv:T[i+3]?=tB v)(wi:dK v oq=tE)(hz:T[i+4]?=tB z)(hs:dK z dO=tE):
  gd ac 243 #[tR (tB ⟨r,0,tD⟩),Z U d] w (iO r lb cap T w ⟨9,bI,x.text,[]⟩ (i+5)):=by
 obtain⟨N,f⟩:=zE w.heap.size;obtain⟨q,uc⟩:=zE (w.alloc (ua #[Z U 0,tU tG,tM ⟨#[]⟩,tM ⟨#[]⟩,tP tD 0 0,tP tD 0 0,tP tD 0 0,Z U 0,Z U 0] 282));have ux:=iV uc f;have wj:q.heap.size=N+1:=by rw[<-uc];simp[f]
 have wk:q.heap[N]?=tB (ua #[Z U 0,tU tG,tM ⟨#[]⟩,tM ⟨#[]⟩,tP tD 0 0,tP tD 0 0,tP tD 0 0,Z U 0,Z U 0] 282 (0,0)):=by rw[<-uc,<-f];exact alloc_at _ _
 have A:=h.grow (by rw[f];exact ux);have va:=zH (bE q A J);have wl:cm (∀W,bh q.heap.size q W->zS 171 #[tR (tB ⟨r,0,tD⟩)] W (tU tG)):=λW hW=>bB W (A.grow hW);have vc:cm (∀(b:bx) W,bh q.heap.size q W->b<W.heap.size->W.heap[b]?=tB (ua #[tM ⟨#[105,102]⟩,tM ⟨#[119,104,105,108,101]⟩,tM ⟨#[98,114,101,97,107]⟩,tM ⟨#[99,111,110,116,105,110,117,101]⟩,tM ⟨#[114,101,116,117,114,110]⟩,tM ⟨#[102,114,101,101]⟩,tM ⟨#[112,117,116]⟩] 9 (0,0))->zP 260 #[tR (tB ⟨r,0,tD⟩),tP (tB ⟨b,0,tD⟩) 7 7] W (tU (mZ t kJ))):=λb W hW hb hr=>iy b 7 kJ W (A.grow hW) J (by decide) hb (iX hr rfl);rw[wh hk (show Cj∈kJ by decide)] at vc;have yq:cm (∀W,Rd r lb cap T i W->gd ac 261 #[tR (tB ⟨r,0,tD⟩),tW #[Z U 0,tU tG,tM ⟨#[]⟩,tM ⟨#[]⟩,tP tD 0 0,tP tD 0 0,tP tD 0 0,Z U t.ln,Z U t.cl],Z U d] W (iO r lb cap T W ⟨9,bI,x.text,[]⟩ (i+5))):=λW hW=>uS _ _ d W hW J hk hu vy we wg hv wi hz hs;simp only[Tok.cells] at va;have hst:∀(w:World)(c:da cd),c.size=5->(dr ⟨w.heap.size,0,tD⟩ [Z U t.kind,tM t.text,Z U t.n,Z U t.ln,Z U t.cl] 0).run ac (w.alloc (ua c 263))= .ok () (w.alloc (ua #[Z U t.kind,tM t.text,Z U t.n,Z U t.ln,Z U t.cl] 263)):=λw c hc=>
  ct (P:=ac) w 263 c #[Z U t.kind,tM t.text,Z U t.n,Z U t.ln,Z U t.cl] (by show _=tB 5;kernel_rfl) hc (by simp[cj])
 have ws:∀(w:World)(c:da cd),c.size=9->(dr ⟨w.heap.size,0,tD⟩ [Z U 0,tU tG,tM ⟨#[]⟩,tM ⟨#[]⟩,tP tD 0 0,tP tD 0 0,tP tD 0 0,Z U t.ln,Z U t.cl] 0).run ac (w.alloc (ua c 282))= .ok () (w.alloc (ua #[Z U 0,tU tG,tM ⟨#[]⟩,tM ⟨#[]⟩,tP tD 0 0,tP tD 0 0,tP tD 0 0,Z U t.ln,Z U t.cl] 282)):=λw c hc=>
  ct (P:=ac) w 282 c #[Z U 0,tU tG,tM ⟨#[]⟩,tM ⟨#[]⟩,tP tD 0 0,tP tD 0 0,tP tD 0 0,Z U t.ln,Z U t.cl] (by show _=tB 9;kernel_rfl) hc (by simp[cj])
 have yr:=zH hst;have yv:=zH ws;have AM:i<T.length:=(ap.1 J).1;have hT:=h.short;have AN:r<N:=by rw[<-f];exact h.rlt
 have yy:cm (lb<N):=by unfold cm;rw[<-f];exact h.lt
 have yW:=zH uc;have wx:=zH ux;have ur:=zH wj;have zc:=zH wk;have H1:=zH A;clear h J hst ws uc ux wj wk A hk hu vy we wg hv wi hz hs;go_enter func243,ntmps243
 go_upto_region 2 with(go_at_call 170;rw[yW.out];refine va.out.mono ?_;rintro e w2 ⟨rfl,xf⟩;have zd:=yr.out w2;have xj:=zH xf;clear xf)
 clear zd;obtain⟨G,hG⟩:=zE w2.heap.size;obtain⟨W3,ud⟩:=zE (w2.alloc (ua #[Z U t.kind,tM t.text,Z U t.n,Z U t.ln,Z U t.cl] 263));rw[hG,ud];have xl:=zD ud xj;have vd:W3.heap.size=G+1:=by rw[<-ud,<-hG];simp
 have AS:N+1<=G:=by rw[<-hG,<-ur.out];exact xj.out.size
 have vf:W3.heap[G]?=tB (ua #[Z U t.kind,tM t.text,Z U t.n,Z U t.ln,Z U t.cl] 263 (0,0)):=by rw[<-ud,<-hG];exact alloc_at _ _
 obtain⟨⟨g0,g1,g2,g3,g4⟩,_,AT⟩:=fF vf;have xo:=yv.out W3;have zj:=zH xl;have zp:=zH vf;clear hG ud xl vf;rw[vd] at xo
 go_upto_region 4 with(fail)
 clear xo;obtain⟨W4,D⟩:=zE (W3.alloc (ua #[Z U 0,tU tG,tM ⟨#[]⟩,tM ⟨#[]⟩,tP tD 0 0,tP tD 0 0,tP tD 0 0,Z U t.ln,Z U t.cl] 282));rw[D];have ue:=zD D zj;have zr:W4.heap.size=G+2:=by rw[<-D];simp[vd]
 have xp:W4.heap[G+1]?=tB (ua #[Z U 0,tU tG,tM ⟨#[]⟩,tM ⟨#[]⟩,tP tD 0 0,tP tD 0 0,tP tD 0 0,Z U t.ln,Z U t.cl] 282 (0,0)):=by rw[<-D,<-vd];exact alloc_at _ _
 have xr:W4.heap[G]?=tB (ua #[Z U t.kind,tM t.text,Z U t.n,Z U t.ln,Z U t.cl] 263 (0,0)):=by rw[<-D];exact(cn _ _ G (by omega)).trans zp.out
 have xt:=(ue.block N (by have:=ur.out;omega)).trans zc.out;obtain⟨W5,uv⟩:=zE (W4.alloc (ua #[tM ⟨#[105,102]⟩,tM ⟨#[119,104,105,108,101]⟩,tM ⟨#[98,114,101,97,107]⟩,tM ⟨#[99,111,110,116,105,110,117,101]⟩,tM ⟨#[114,101,116,117,114,110]⟩,tM ⟨#[102,114,101,101]⟩,tM ⟨#[112,117,116]⟩] 9));have vh:=iq uv;have vi:=ue.trans (vh.mono ue.size);have vj:W5.heap[G+2]?=tB (ua #[tM ⟨#[105,102]⟩,tM ⟨#[119,104,105,108,101]⟩,tM ⟨#[98,114,101,97,107]⟩,tM ⟨#[99,111,110,116,105,110,117,101]⟩,tM ⟨#[114,101,116,117,114,110]⟩,tM ⟨#[102,114,101,101]⟩,tM ⟨#[112,117,116]⟩] 9 (0,0)):=by rw[<-uv,<-zr];exact alloc_at _ _
 have zv:=zH (wl.out W4 ue);have An:=zH (vc.out (G+2) W5 vi (ae vj) vj);have As:=zH uv;have xF:=zH vh;have xT:=zH vi;have At:=zH xp;have AW:=zH xr;have Ax:=zH xt;clear D ue xp xr xt uv vh vi vj wl va vc g0 g1 g2 g3 g4
 go_upto_region 7 with(first
  |(go_at_call 171;refine zv.out.mono ?_;rintro e w5 ⟨rfl,rfl⟩)
  |(go_at_call 260;(try rw[As.out]);refine An.out.mono ?_;rintro e w6 ⟨rfl,ya⟩;have yb:=zH ya;clear ya))
 have vm:=xF.out.trans (yb.out.mono xF.out.size);have vp:=xT.out.trans (yb.out.mono xT.out.size);have h6:=H1.out.grow vp;have yd:=(vm.block (G+1) (by omega)).trans At.out;have ye:=(vm.block N (by omega)).trans Ax.out;obtain⟨⟨a0,a1,a2,a3,a4,a5,a6,a7,a8⟩,_,A0⟩:=fQ yd;have AD:=zH (yq.out w6 h6);have yi:=zH vp;have yk:=zH ye;clear vm vp h6 yd ye
 go_wp2_with (go_at_call 261;refine AD.out.mono ?_;rintro e w7 ⟨s,rfl,yp,vq,vr⟩;obtain⟨AE,en,ec,hE⟩:=vq.slice;have HE:=zH hE;have AF:=zH yp;have AG:=zH vq;have AH:=zH vr;have vu:=vr.2.heap yk.out (by omega);have AI:=zH vu;obtain⟨⟨p0,p1,p2,p3,p4,p5,p6,p7,p8⟩,⟨q0,q1,q2,q3,q4,q5,q6,q7,q8⟩,A2⟩:=fQ vu;unfold Sm.cells;rw[hE];clear yp vq vr vu hE)
 (try simp only[db,Exit.then]);refine dv (eI (P:=ac) rfl _ _ N 282 _ (0,0) _ rfl (lX AI.out) mS rfl (by kernel_rfl)) rfl ?_;have vx:=lY w7 N (Z U s.kind) (tU s.ty.1) (tM s.ty.2) (tM s.nm) (tP AE en ec) (tP tD 0 0) (tP tD 0 0) (Z U s.ln) (Z U s.cl);have AK:w.heap.size<=w6.heap.size:=(wx.out.trans (yi.out.mono (by rw[ur.out];omega))).size;have A4:N<w6.heap.size:=ae yk.out;have hM:bJ r lb cap T (i+5) w w7:=bJ.grown (show bh w.heap.size w w6 by rw[f];exact wx.out.trans (yi.out.mono (by rw[ur.out];omega))) AH.out;exact⟨s,by unfold Sm.cells;rw[HE.out],AF.out,(AG.out.ext vx (λk A h2 e=>by omega)).mono AK,hM.1.ext vx (by omega) (by have:=yy.out;omega),hM.2.trans vx (λk hk=> .inr (by omega))⟩
theorem za {r lb cap:bx}{T:bm Tok}{i:bx}{k:bx}{t u x v z:Tok}{e:Ex}(d:bp)(w:World)(h:Rd r lb cap T i w)(ht:T[i]?=tB t)(A:t.kind=1)(hu:T[i+1]?=tB u)(wl:dK u jZ=tE)(zc:u.kind=4)(zd:T[i+2]?=tB x)(zj:x.kind=1)(hv:T[i+3]?=tB v)(zp:dK v Hl=tE)(hl:fE T (i+4) e k)(hz:T[k]?=tB z)(hs:dK z dO=tE):
  gd ac 243 #[tR (tB ⟨r,0,tD⟩),Z U d] w (iO r lb cap T w ⟨1,(tE,t.text),x.text,[e]⟩ (k+1)):=by
 obtain⟨N,hN⟩:=zE w.heap.size;obtain⟨q,ud⟩:=zE (w.alloc (ua #[Z U 0,tU tG,tM ⟨#[]⟩,tM ⟨#[]⟩,tP tD 0 0,tP tD 0 0,tP tD 0 0,Z U 0,Z U 0] 282));have ws:=iV ud hN;have zr:q.heap.size=N+1:=by rw[<-ud];simp[hN]
 have zv:q.heap[N]?=tB (ua #[Z U 0,tU tG,tM ⟨#[]⟩,tM ⟨#[]⟩,tP tD 0 0,tP tD 0 0,tP tD 0 0,Z U 0,Z U 0] 282 (0,0)):=by rw[<-ud,<-hN];exact alloc_at _ _
 have h1:=h.grow (by rw[hN];exact ws);have wx:=zH (bE q h1 ht);have An:cm (∀W,bh q.heap.size q W->zS 171 #[tR (tB ⟨r,0,tD⟩)] W (tU tG)):=λW f=>bB W (h1.grow f);have xf:cm (∀(b:bx) W,bh q.heap.size q W->b<W.heap.size->W.heap[b]?=tB (ua #[tM ⟨#[105,102]⟩,tM ⟨#[119,104,105,108,101]⟩,tM ⟨#[98,114,101,97,107]⟩,tM ⟨#[99,111,110,116,105,110,117,101]⟩,tM ⟨#[114,101,116,117,114,110]⟩,tM ⟨#[102,114,101,101]⟩,tM ⟨#[112,117,116]⟩] 9 (0,0))->zP 260 #[tR (tB ⟨r,0,tD⟩),tP (tB ⟨b,0,tD⟩) 7 7] W (tU (mZ t kJ))):=λb W f hb hr=>iy b 7 kJ W (h1.grow f) ht (by decide) hb (iX hr rfl);rw[pV (by omega) (by omega) kJ] at xf;have vd:cm (∀W,bh q.heap.size q W->zP 172 #[tR (tB ⟨r,0,tD⟩),tM xw] W (tU (dK t xw))):=λW f=>bg _ W (h1.grow f) ht;rw[mM A] at vd;unfold xw at vd;have xj:cm (∀W,bh q.heap.size q W->zP 262 #[tR (tB ⟨r,0,tD⟩)] W (tU (u.text==jZ))):=λW f=>xx W (h1.grow f) hu zc;rw[show(u.text==jZ)=tE from mN.2 (xC wl).1] at xj;have Ds:cm (∀W,Rd r lb cap T i W->gd ac 209 #[tR (tB ⟨r,0,tD⟩)] W λe w'=>e= ub (tW #[tU tE,tM t.text])/\bJ r lb cap T (i+2) W w'):=λW f=>vZ W f ht A hu wl;have DA:cm (∀W,Rd r lb cap T (i+2) W->gd ac 208 #[tR (tB ⟨r,0,tD⟩)] W λe w'=>e= ub (.tuple #[tM x.text,tW #[Z U x.ln,Z U x.cl]])/\bJ r lb cap T (i+3) W w'):=λW f=>dZ W f zd zj;have As:cm (∀W,Rd r lb cap T (i+3) W->gd ac 207 #[tR (tB ⟨r,0,tD⟩),tM Hl] W λe w'=>e= ub (.tuple #[])/\bJ r lb cap T (i+4) W w'):=λW f=>aY Hl W f hv zp;have At:cm (∀W,Rd r lb cap T k W->gd ac 207 #[tR (tB ⟨r,0,tD⟩),tM dO] W λe w'=>e= ub (.tuple #[])/\bJ r lb cap T (k+1) W w'):=λW f=>aY dO W f hz hs;unfold Hl at As;unfold dO at At;have xl:∀W,Rd r lb cap T (i+4) W->gd ac 263 #[tR (tB ⟨r,0,tD⟩),Z U d] W λen w'=>en= ub (tW e.cells)/\bJ r lb cap T k W w':=λW f=>oo d W f hl hz hs;unfold Ex.cells at xl;have DB:=zH xl;clear xl;simp only[Tok.cells,A] at wx;have hst:∀(w:World)(c:da cd),c.size=5->(dr ⟨w.heap.size,0,tD⟩ [Z U 1,tM t.text,Z U t.n,Z U t.ln,Z U t.cl] 0).run ac (w.alloc (ua c 263))= .ok () (w.alloc (ua #[Z U 1,tM t.text,Z U t.n,Z U t.ln,Z U t.cl] 263)):=λw c hc=>
  ct (P:=ac) w 263 c #[Z U 1,tM t.text,Z U t.n,Z U t.ln,Z U t.cl] (by show _=tB 5;kernel_rfl) hc (by simp[cj])
 have Ax:∀(w:World)(c:da cd),c.size=9->(dr ⟨w.heap.size,0,tD⟩ [Z U 0,tU tG,tM ⟨#[]⟩,tM ⟨#[]⟩,tP tD 0 0,tP tD 0 0,tP tD 0 0,Z U t.ln,Z U t.cl] 0).run ac (w.alloc (ua c 282))= .ok () (w.alloc (ua #[Z U 0,tU tG,tM ⟨#[]⟩,tM ⟨#[]⟩,tP tD 0 0,tP tD 0 0,tP tD 0 0,Z U t.ln,Z U t.cl] 282)):=λw c hc=>
  ct (P:=ac) w 282 c #[Z U 0,tU tG,tM ⟨#[]⟩,tM ⟨#[]⟩,tP tD 0 0,tP tD 0 0,tP tD 0 0,Z U t.ln,Z U t.cl] (by show _=tB 9;kernel_rfl) hc (by simp[cj])
 have DE:=zH hst;have DG:=zH Ax;have G1:i<T.length:=(ap.1 ht).1;have hT:=h.short;have G2:r<N:=by rw[<-hN];exact h.rlt
 have ue:cm (lb<N):=by unfold cm;rw[<-hN];exact h.lt
 have DH:=zH ud;have DM:=zH ws;have xo:=zH zr;have DO:=zH zv;have H1:=zH h1;clear h ht hst Ax ud ws zr zv h1 A hu wl zc zd zj hv zp hl hz hs;go_enter func243,ntmps243
 go_upto_region 2 with(go_at_call 170;rw[DH.out];refine wx.out.mono ?_;rintro e w2 ⟨rfl,AD⟩;have DP:=DE.out w2;have AE:=zH AD;clear AD)
 clear DP;obtain⟨G,hG⟩:=zE w2.heap.size;obtain⟨W3,ur⟩:=zE (w2.alloc (ua #[Z U 1,tM t.text,Z U t.n,Z U t.ln,Z U t.cl] 263));rw[hG,ur];have AF:=zD ur AE;have xp:W3.heap.size=G+1:=by rw[<-ur,<-hG];simp
 have G3:N+1<=G:=by rw[<-hG,<-xo.out];exact AE.out.size
 have xr:W3.heap[G]?=tB (ua #[Z U 1,tM t.text,Z U t.n,Z U t.ln,Z U t.cl] 263 (0,0)):=by rw[<-ur,<-hG];exact alloc_at _ _
 obtain⟨⟨g0,g1,g2,g3,g4⟩,_,G4⟩:=fF xr;have AG:=DG.out W3;have DQ:=zH AF;have DS:=zH xr;clear hG ur AF xr;rw[xp] at AG
 go_upto_region 4 with(fail)
 clear AG;obtain⟨W4,uc⟩:=zE (W3.alloc (ua #[Z U 0,tU tG,tM ⟨#[]⟩,tM ⟨#[]⟩,tP tD 0 0,tP tD 0 0,tP tD 0 0,Z U t.ln,Z U t.cl] 282));rw[uc];have uv:=zD uc DQ;have D0:W4.heap.size=G+2:=by rw[<-uc];simp[xp]
 have AH:W4.heap[G+1]?=tB (ua #[Z U 0,tU tG,tM ⟨#[]⟩,tM ⟨#[]⟩,tP tD 0 0,tP tD 0 0,tP tD 0 0,Z U t.ln,Z U t.cl] 282 (0,0)):=by rw[<-uc,<-xp];exact alloc_at _ _
 have AI:W4.heap[G]?=tB (ua #[Z U 1,tM t.text,Z U t.n,Z U t.ln,Z U t.cl] 263 (0,0)):=by rw[<-uc];exact(cn _ _ G (by omega)).trans DS.out
 have AK:=(uv.block N (by have:=xo.out;omega)).trans DO.out;obtain⟨W5,vf⟩:=zE (W4.alloc (ua #[tM ⟨#[105,102]⟩,tM ⟨#[119,104,105,108,101]⟩,tM ⟨#[98,114,101,97,107]⟩,tM ⟨#[99,111,110,116,105,110,117,101]⟩,tM ⟨#[114,101,116,117,114,110]⟩,tM ⟨#[102,114,101,101]⟩,tM ⟨#[112,117,116]⟩] 9));have xt:=iq vf;have xF:=uv.trans (xt.mono uv.size);have xT:W5.heap[G+2]?=tB (ua #[tM ⟨#[105,102]⟩,tM ⟨#[119,104,105,108,101]⟩,tM ⟨#[98,114,101,97,107]⟩,tM ⟨#[99,111,110,116,105,110,117,101]⟩,tM ⟨#[114,101,116,117,114,110]⟩,tM ⟨#[102,114,101,101]⟩,tM ⟨#[112,117,116]⟩] 9 (0,0)):=by rw[<-vf,<-D0];exact alloc_at _ _
 have D1:=zH (An.out W4 uv);have D2:=zH (xf.out (G+2) W5 xF (ae xT) xT);have D3:=zH vf;have AM:=zH xt;have AN:=zH xF;have D4:=zH AH;have Ek:=zH AI;have EV:=zH AK;clear uc uv AH AI AK vf xt xF xT An wx xf g0 g1 g2 g3 g4
 go_upto_region 8 with(first
  |(go_at_call 171;refine D1.out.mono ?_;rintro e w5 ⟨rfl,rfl⟩)
  |(go_at_call 260;(try rw[D3.out]);refine D2.out.mono ?_;rintro e w6 ⟨rfl,AS⟩;have AT:=zH AS;clear AS))
 have vh:=AM.out.trans (AT.out.mono AM.out.size);have ux:=AN.out.trans (AT.out.mono AN.out.size);have ya:=(vh.block (G+1) (by omega)).trans D4.out;have AW:=(vh.block G (by omega)).trans Ek.out;have A0:=(vh.block N (by omega)).trans EV.out;have E0:=zH (vd.out w6 ux);have E3:=zH (λW (hb:bh w6.heap.size w6 W)=>xj.out W (ux.trans (hb.mono ux.size)));have A2:=zH ux;have E4:=zH ya;have E6:=zH AW;have E7:=zH A0;have Hb:G+1<w6.heap.size:=ae ya;clear vh ux ya AW A0 xj vd
 go_upto_region 9 with(first
  |(go_at_call 172;refine E0.out.mono ?_;rintro e w7 ⟨rfl,yb⟩;have yd:=zH yb;obtain⟨⟨g0,g1,g2,g3,g4⟩,_,Fc⟩:=fF ((yb.block G (by omega)).trans E6.out);clear yb)
  |(go_at_call 262;refine(E3.out w7 yd.out).mono ?_;rintro e w8 ⟨rfl,A4⟩;have ye:=zH (yd.out.trans (A4.mono yd.out.size));clear A4))
 have yi:=A2.out.trans (ye.out.mono A2.out.size);have h8:=H1.out.grow yi;have yk:=(ye.out.block (G+1) (by omega)).trans E4.out;have A5:=(ye.out.block N (by omega)).trans E7.out;obtain⟨⟨D,J,a2,a3,a4,a5,a6,a7,a8⟩,⟨b0,b1,b2,b3,b4,b5,b6,b7,b8⟩,Fi⟩:=fQ yk;have H8:=zH h8;have Fk:=zH yi;have Fl:=zH yk;have Fm:=zH A5;clear yi h8 yk A5 g0 g1 g2 g3 g4 Fc
 go_upto_region 10 with(fail)
 obtain⟨W9,vi⟩:=zE (w8.setCell ⟨G+1,0,tD⟩ (Z U 1));rw[vi];have vj:Ext (·=G+1) w8 W9:=by rw[<-vi];exact ah (Ext.refl _ _) _
 have h9:=H8.out.ext vj (by omega) (by have:=ue.out;omega);have A6:bJ r lb cap T i w W9:=⟨h9,((Ext.of_below_size (M:=(·=r)) (show bh w.heap.size w w8 by rw[hN];exact DM.out.trans (Fk.out.mono (by rw[xo.out];omega))))).trans vj (λk A=> .inr (by omega))⟩
 have Bk:W9.heap[G+1]?=tB (ua #[Z U 1,tU tG,tM ⟨#[]⟩,tM ⟨#[]⟩,tP tD 0 0,tP tD 0 0,tP tD 0 0,Z U t.ln,Z U t.cl] 282 (0,0)):=by rw[<-vi];exact bk _ (G+1) 0 _ _ _ Fl.out
 have Bm:=vj.heap Fm.out (by omega);have By:=zH A6;have Fo:=zH Bk;have Fr:=zH Bm;clear vi vj h9 A6 Bk Bm D J a2 a3 a4 a5 a6 a7 a8 b0 b1 b2 b3 b4 b5 b6 b7 b8 Fi
 go_upto_region 11 with(go_at_call 209;refine(Ds.out W9 By.out.1).mono ?_;rintro e BE ⟨rfl,vm⟩;have BT:=zH (By.out.trans vm);have yp:=vm.2.heap Fo.out (by omega);have BY:=vm.2.heap Fr.out (by omega);have Ft:=zH yp;have FA:=zH BY;obtain⟨⟨D,J,a2,a3,a4,a5,a6,a7,a8⟩,⟨b0,b1,b2,b3,b4,b5,b6,b7,b8⟩,FF⟩:=fQ yp;clear vm yp BY)
 obtain⟨vp,vq⟩:=zE ((BE.setCell ⟨G+1,1,tD⟩ (tU tE)).setCell ⟨G+1,2,tD⟩ (tM t.text));rw[vq];have vr:Ext (·=G+1) BE vp:=by rw[<-vq];exact ah (ah (Ext.refl _ _) _) _
 have B4:bJ r lb cap T (i+2) w vp:=⟨BT.out.1.ext vr (by omega) (by have:=ue.out;omega),BT.out.2.trans vr (λk A=> .inr (by omega))⟩
 have B5:vp.heap[G+1]?=tB (ua #[Z U 1,tU tE,tM t.text,tM ⟨#[]⟩,tP tD 0 0,tP tD 0 0,tP tD 0 0,Z U t.ln,Z U t.cl] 282 (0,0)):=by rw[<-vq];exact bk _ (G+1) 2 _ _ _ (bk _ (G+1) 1 _ _ _ Ft.out)
 have B6:=vr.heap FA.out (by omega);have B8:=zH B4;have FG:=zH B5;have F0:=zH B6;clear vq vr B4 B5 B6 D J a2 a3 a4 a5 a6 a7 a8 b0 b1 b2 b3 b4 b5 b6 b7 b8 FF
 go_upto_region 12 with(go_at_call 208;refine(DA.out vp B8.out.1).mono ?_;rintro e B9 ⟨rfl,vu⟩;have Cd:=zH (B8.out.trans vu);have yq:=vu.2.heap FG.out (by omega);have Cl:=vu.2.heap F0.out (by omega);have F2:=zH yq;have Ge:=zH Cl;obtain⟨⟨D,J,a2,a3,a4,a5,a6,a7,a8⟩,⟨b0,b1,b2,b3,b4,b5,b6,b7,b8⟩,Gk⟩:=fQ yq;clear vu yq Cl)
 obtain⟨vx,vy⟩:=zE (B9.setCell ⟨G+1,3,tD⟩ (tM x.text));rw[vy];have we:Ext (·=G+1) B9 vx:=by rw[<-vy];exact ah (Ext.refl _ _) _
 have Cp:bJ r lb cap T (i+3) w vx:=⟨Cd.out.1.ext we (by omega) (by have:=ue.out;omega),Cd.out.2.trans we (λk A=> .inr (by omega))⟩
 have CA:vx.heap[G+1]?=tB (ua #[Z U 1,tU tE,tM t.text,tM x.text,tP tD 0 0,tP tD 0 0,tP tD 0 0,Z U t.ln,Z U t.cl] 282 (0,0)):=by rw[<-vy];exact bk _ (G+1) 3 _ _ _ F2.out
 have CC:=we.heap Ge.out (by omega);have CD:=zH Cp;have GB:=zH CA;have GC:=zH CC;clear vy we Cp CA CC D J a2 a3 a4 a5 a6 a7 a8 b0 b1 b2 b3 b4 b5 b6 b7 b8 Gk
 go_upto_region 13 with(go_at_call 207;refine(As.out vx CD.out.1).mono ?_;rintro e GE ⟨rfl,yr⟩;have CH:=zH (CD.out.trans yr);have CM:=zH yr.2;clear yr)
 go_upto_region 16 with(go_at_call 263;refine(DB.out GE CH.out.1).mono ?_;rintro e wg ⟨rfl,wi⟩;have CN:=zH (CH.out.trans wi);have yv:=wi.2.heap (CM.out.heap GB.out (by omega)) (by omega);have CT:=wi.2.heap (CM.out.heap GC.out (by omega)) (by omega);have GF:=zH yv;have GO:=zH CT;obtain⟨⟨D,J,a2,a3,a4,a5,a6,a7,a8⟩,⟨b0,b1,b2,b3,b4,b5,b6,b7,b8⟩,C3⟩:=fQ yv;clear wi yv CT)
 obtain⟨Q,hQ⟩:=zE wg.heap.size;rw[hQ];obtain⟨va,vc⟩:=zE ((wg.setCell ⟨G+1,4,tD⟩ (tP (tB ⟨Q,0,tD⟩) 1 1)).alloc (ua #[Z U e.kind,Z U e.n,tM e.nm,tM ⟨#[]⟩,tP tD 0 0,Z U e.ln,Z U e.cl] 313));rw[vc];have wj:Ext (·=G+1) wg va:=by rw[<-vc];exact(ah (Ext.refl _ _) _).alloc _
 have Hc:G+1<Q:=by rw[<-hQ];exact C3
 have C4:va.heap[Q]?=tB (ua #[Z U e.kind,Z U e.n,tM e.nm,tM ⟨#[]⟩,tP tD 0 0,Z U e.ln,Z U e.cl] 313 (0,0)):=by
  have:=alloc_at (wg.setCell ⟨G+1,4,tD⟩ (tP (tB ⟨Q,0,tD⟩) 1 1)) (ua #[Z U e.kind,Z U e.n,tM e.nm,tM ⟨#[]⟩,tP tD 0 0,Z U e.ln,Z U e.cl] 313);rw[World.size_setCell,hQ,vc] at this;exact this
 have C5:va.heap[G+1]?=tB (ua #[Z U 1,tU tE,tM t.text,tM x.text,tP (tB ⟨Q,0,tD⟩) 1 1,tP tD 0 0,tP tD 0 0,Z U t.ln,Z U t.cl] 282 (0,0)):=by
  rw[<-vc];exact(cn _ _ (G+1) (by rw[World.size_setCell];omega)).trans (bk _ (G+1) 4 _ _ _ GF.out)
 have C6:=wj.heap GO.out (by omega);have C7:bJ r lb cap T k w va:=⟨CN.out.1.ext wj (by omega) (by have:=ue.out;omega),CN.out.2.trans wj (λk A=> .inr (by omega))⟩
 have Dd:=zH C7;have GP:=zH C4;have GS:=zH C5;have GT:=zH C6;clear hQ vc wj C4 C5 C6 C7 D J a2 a3 a4 a5 a6 a7 a8 b0 b1 b2 b3 b4 b5 b6 b7 b8 C3
 go_wp2_with (go_at_call 207;refine(At.out va Dd.out.1).mono ?_;rintro e GW ⟨rfl,wk⟩;have Dg:=zH wk;have Do:=wk.2.heap GS.out (by omega);have yy:=wk.2.heap GT.out (by omega);have G0:=zH yy;obtain⟨⟨D,J,a2,a3,a4,a5,a6,a7,a8⟩,⟨b0,b1,b2,b3,b4,b5,b6,b7,b8⟩,Hh⟩:=fQ Do;obtain⟨⟨p0,p1,p2,p3,p4,p5,p6,p7,p8⟩,⟨q0,q1,q2,q3,q4,q5,q6,q7,q8⟩,Hi⟩:=fQ yy;clear wk Do yy)
 (try simp only[db,Exit.then]);refine dv (eI (P:=ac) rfl _ _ N 282 _ (0,0) _ rfl (lX G0.out) mS rfl (by kernel_rfl)) rfl ?_;have hM:=Dd.out.trans Dg.out;have yW:=lY GW N (Z U 1) (tU tE) (tM t.text) (tM x.text) (tP (tB ⟨Q,0,tD⟩) 1 1) (tP tD 0 0) (tP tD 0 0) (Z U t.ln) (Z U t.cl);refine⟨⟨1,(tE,t.text),x.text,tP (tB ⟨Q,0,tD⟩) 1 1,t.ln,t.cl,[e]⟩,rfl,rfl,.inr ⟨Q,1,rfl,by omega, ?_⟩,hM.1.ext yW (by omega) (by have:=ue.out;omega),hM.2.trans yW (λk A=> .inr (by omega))⟩;exact yW.heap (Dg.out.2.heap GP.out (by omega)) (by omega)
end Go.Proofs.YtjomgckjhcfbgaaGreat
