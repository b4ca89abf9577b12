/- Walks. -/
import Derived.ArgAppend
import Derived.Test.YtjomgckjhcfbgaaGreatV4
set_option maxRecDepth 100000
set_option maxHeartbeats 64000000
set_option linter.all false
namespace Go.Proofs.YtjomgckjhcfbgaaGreat
open Go.RowKit
open Go.Proofs.Tryz renaming prog→ac,underlying32→dg,underlying4→fh,ntmps217→mj,func217→mA
open Go.RowKit.Below renaming refl→an,heap_alloc→bt
open _root_ renaming ByteArray→ap,List→bh,Nat→bw,Int→ct,Array→cC,Option→dr,Bool→iv
open Go.RowKit renaming Below→bj,Hid→cr
open _root_.Nat renaming le_refl→bl
open Go renaming Value→bo,run_storeCells_new→cf,storeCells→cM,maxLen→cX,run_underlying→dT,Calls→et,heap_alloc2_old→eA,TypeId→eJ,Oper→fY,Program→gA,bytes→mx
open Go.Value renaming oneCell'→bp,string→oe,slice→ot,pointer→ox,bool→oy,agg→oA,int→Z
open _root_.List renaming eq_nil_of_length_eq_zero→db
open Go.Result renaming andThen→eb
open Go.Sem renaming run_bind→fi
open Go.Oper renaming wp→ia
open Go.Instr renaming field→jp
open _root_.Option renaming some→oa,none→ob
open _root_.Bool renaming true→oc,false→od
open Go.Obj renaming cells→oB
open Go.Ending renaming returned→oE
open Go.IntKind renaming i64→U
open Tryz
theorem xn (a:iv)(s:ap)(W:World):(jp 32 (oA #[oy a,oe s]) 0).run ac W= .ok (oy a) W:=by
 have b:=dg;have d:=fh;unfold jp;rw[fi,dT b W];simp[asAgg,part,go_sem,isAgg,fi,dT d W]
theorem tq {m:bw}{p:Pg}{L:bw}{X:Fx}{V:bh Ty}{I:bh dF}{S:bh (ap×bw)}{O:bw->Prop}{s:Sl}(n:ct)(v:ap)(a b:ct)(q:Ty)(x:ct)(w:World)(h:Mk m p L X V I S O s w)(pb:V.length+1<=1000)(pc:I.length+1<=1000):
  et ac 217 #[ox (oa ⟨m,0,ob⟩),oA #[Z U 1,Z U n,oe v,oe ⟨#[]⟩,ot ob 0 0,Z U a,Z U b],oA #[oy q.1,oe q.2],Z U x] w λe w'=>e= oE (Z U (uI x V))/\bB m p L X (yA x V bG) (I++[⟨1,uI x V,0,0,n,a,b⟩]) S O w w':=by
 obtain⟨N,f⟩:=zE w.heap.size;obtain⟨g,o⟩:=zE ((w.alloc (oB #[Z U 1,Z U n,oe v,oe ⟨#[]⟩,ot ob 0 0,Z U a,Z U b] 313)).alloc (oB #[oy q.1,oe q.2] 32));obtain⟨d,j⟩:=zE (g.alloc (oB #[oy od,oe ⟨#[]⟩] 32));have J:=oL o f;have y:g.heap.size=N+2:=by rw[<-o];simp[f]
 have A:bj N w d:=by rw[<-j];exact J.alloc (by omega) _
 have K:d.heap.size=N+3:=by rw[<-j];simp[y]
 have D:d.heap[N]?=oa (oB #[Z U 1,Z U n,oe v,oe ⟨#[]⟩,ot ob 0 0,Z U a,Z U b] 313 (0,0)):=by
  rw[<-j];refine(bt _ _ N (by omega)).trans ?_;rw[<-o,<-f];exact eA _ _ _
 have R:d.heap[N+2]?=oa (oB #[oy od,oe ⟨#[]⟩] 32 (0,0)):=by rw[<-j,<-y];exact alloc_at _ _
 have Y:Mk m p L X V I S O s d:=h.grow (by rw[f];exact A);have px:m<N:=by have:=aa h.row;omega
 have oR:¬(N=m\/O N):=by rintro(h1|h1);omega;have:=(h.ol N h1).2;omega
 have hst:∀(c:cC bo),c.size=2->(cM ⟨g.heap.size,0,ob⟩ [oy od,oe ⟨#[]⟩] 0).run ac (g.alloc (oB c 32))= .ok () (g.alloc (oB #[oy od,oe ⟨#[]⟩] 32)):=λc hc=>
  cf (P:=ac) g 32 c #[oy od,oe ⟨#[]⟩] (by show _=oa 2;kernel_rfl) hc (by simp[bp])
 have oS:bj w.heap.size w d:=by rw[f];exact A
 have pd:=zH hst;have pf:=zH o;have ph:=zH j;have pi:=zH oS;have pj:=zH D;have pk:=zH oR;have py:=zH K;have pB:=zH f;have pl:=zH (mZ x bG d Y pb);clear h o j J A K Y hst oS oR;go_enter mA,mj
 go_upto_region 1 with(fail)
 rw[pf.out];have pm:=pd.out
 go_upto_region 2 with(fail)
 rw[ph.out];(try simp only[y]);clear pm;obtain⟨⟨a0,a1,a2,a3,a4,a5,a6⟩,_,pD⟩:=bR D;obtain⟨⟨e0,e1⟩,_,pH⟩:=bg R;clear D R
 go_upto_region 5 with(go_at_call 246;refine pl.out.mono ?_;rintro e w4 ⟨rfl,oT⟩;have pn:=zH oT;clear oT)
 obtain⟨O4,s4,k4,G,o4⟩:=pn.out;have oX:=G.heap pj.out pk.out;obtain⟨⟨b0,b1,b2,b3,b4,b5,b6⟩,_,pL⟩:=bR oX;have po:=zH (eP ⟨1,uI x V,0,0,n,a,b⟩ w4 k4 pc);have pp:cr (∀u,bB m p L X (yA x V bG) (I++[⟨1,uI x V,0,0,n,a,b⟩]) S O4 w4 u->bB m p L X (yA x V bG) (I++[⟨1,uI x V,0,0,n,a,b⟩]) S O w u):=λu h5=>(bB.trans G o4 h5).below pi.out;clear k4 G o4 oX a0 a1 a2 a3 a4 a5 a6 e0 e1
 go_wp2_with (go_at_call 223;refine po.out.mono ?_;rintro e u ⟨rfl,oY⟩;have pw:=zH (pp.out _ oY);clear oY)
 go_ret;exact⟨rfl,pw.out⟩
theorem Au {m:bw}{p:Pg}{L:bw}{X:Fx}{V:bh Ty}{I:bh dF}{S:bh (ap×bw)}{O:bw->Prop}{s:Sl}(n:ct)(b:ap)(A D:ct)(u:Ty)(x:ct)(j:bw)(z:ap×bw)(Y:S[j]?=oa z)(hn:(z.1==b)=oc)(hl:∀q y,j<q->S[q]?=oa y->(y.1==b)=od)(y:Ty)(hy:V[z.2]?=oa y)(hx:x<0)(w:World)(h:Mk m p L X V I S O s w)(ph:V.length+1<=1000)(pi:I.length+1<=1000):
  et ac 217 #[ox (oa ⟨m,0,ob⟩),oA #[Z U 2,Z U n,oe b,oe ⟨#[]⟩,ot ob 0 0,Z U A,Z U D],oA #[oy u.1,oe u.2],Z U x] w λe w'=>e= oE (Z U (z.2:ct))/\bB m p L X V I S O w w':=by
 obtain⟨N,d⟩:=zE w.heap.size;obtain⟨f,o⟩:=zE ((w.alloc (oB #[Z U 2,Z U n,oe b,oe ⟨#[]⟩,ot ob 0 0,Z U A,Z U D] 313)).alloc (oB #[oy u.1,oe u.2] 32));obtain⟨a,g⟩:=zE (f.alloc (oB #[oy od,oe ⟨#[]⟩] 32));have oR:=oL o d;have G:f.heap.size=N+2:=by rw[<-o];simp[d]
 have J:bj N w a:=by rw[<-g];exact oR.alloc (by omega) _
 have oS:a.heap.size=N+3:=by rw[<-g];simp[G]
 have K:a.heap[N]?=oa (oB #[Z U 2,Z U n,oe b,oe ⟨#[]⟩,ot ob 0 0,Z U A,Z U D] 313 (0,0)):=by
  rw[<-g];refine(bt _ _ N (by omega)).trans ?_;rw[<-o,<-d];exact eA _ _ _
 have oT:a.heap[N+2]?=oa (oB #[oy od,oe ⟨#[]⟩] 32 (0,0)):=by rw[<-g,<-G];exact alloc_at _ _
 have v:Mk m p L X V I S O s a:=h.grow (by rw[d];exact J);have pj:m<N:=by have:=aa h.row;omega
 have oX:¬(N=m\/O N):=by rintro(h1|h1);omega;have:=(h.ol N h1).2;omega
 have hst:∀(c:cC bo),c.size=2->(cM ⟨f.heap.size,0,ob⟩ [oy od,oe ⟨#[]⟩] 0).run ac (f.alloc (oB c 32))= .ok () (f.alloc (oB #[oy od,oe ⟨#[]⟩] 32)):=λc hc=>
  cf (P:=ac) f 32 c #[oy od,oe ⟨#[]⟩] (by show _=oa 2;kernel_rfl) hc (by simp[bp])
 have R:bj w.heap.size w a:=by rw[d];exact J
 have oY:=zH hst;have pb:=zH o;have pc:=zH g;have pk:=zH R;have pl:=zH K;have pm:=zH oX;have pn:=zH oS;have po:=zH d;have pd:cr (zS 218 #[ox (oa ⟨m,0,ob⟩),oe b] a (Z U (z.2:ct))):=jV b j z Y hn hl a v;have pp:cr (zP 219 #[ox (oa ⟨m,0,ob⟩),Z U (z.2:ct)] a (oA #[oy y.1,oe y.2])):=lJ z.2 y hy a v;have pw:=zH v;have HS:cr (bB m p L X V I S O w a):=h.same R;clear h o g oR J oS v hst R oX Y hn hl hy;go_enter mA,mj
 go_upto_region 1 with(fail)
 rw[pb.out];have pf:=oY.out
 go_upto_region 2 with(fail)
 rw[pc.out];(try simp only[G]);clear pf;obtain⟨⟨a0,a1,a2,a3,a4,a5,a6⟩,_,px⟩:=bR K;obtain⟨⟨e0,e1⟩,_,py⟩:=bg oT;clear K oT
 go_wp2_with (go_at_call 218;refine pd.out.mono ?_;rintro e a ⟨rfl,rfl⟩)
 go_ret;exact⟨rfl,HS.out⟩
theorem rG {m:bw}{p:Pg}{L:bw}{X:Fx}{V:bh Ty}{I:bh dF}{S:bh (ap×bw)}{O:bw->Prop}{s:Sl}(n:ct)(b:ap)(d f:ct)(A:Ty)(x:ct)(j:bw)(z:ap×bw)(hj:S[j]?=oa z)(hn:(z.1==b)=oc)(hl:∀q y,j<q->S[q]?=oa y->(y.1==b)=od)(y:Ty)(hy:V[z.2]?=oa y)(hx:0<=x)(hp:y.1=oc)(w:World)(h:Mk m p L X V I S O s w)(pL:V.length+1<=1000)(ph:I.length+1<=1000):
  et ac 217 #[ox (oa ⟨m,0,ob⟩),oA #[Z U 2,Z U n,oe b,oe ⟨#[]⟩,ot ob 0 0,Z U d,Z U f],oA #[oy A.1,oe A.2],Z U x] w λe w'=>e= oE (Z U x)/\bB m p L X V (I++[⟨9,x,(z.2:ct),0,0,d,f⟩]) S O w w':=by
 obtain⟨N,g⟩:=zE w.heap.size;obtain⟨o,v⟩:=zE ((w.alloc (oB #[Z U 2,Z U n,oe b,oe ⟨#[]⟩,ot ob 0 0,Z U d,Z U f] 313)).alloc (oB #[oy A.1,oe A.2] 32));obtain⟨a,u⟩:=zE (o.alloc (oB #[oy od,oe ⟨#[]⟩] 32));have oR:=oL v g;have J:o.heap.size=N+2:=by rw[<-v];simp[g]
 have K:bj N w a:=by rw[<-u];exact oR.alloc (by omega) _
 have oS:a.heap.size=N+3:=by rw[<-u];simp[J]
 have R:a.heap[N]?=oa (oB #[Z U 2,Z U n,oe b,oe ⟨#[]⟩,ot ob 0 0,Z U d,Z U f] 313 (0,0)):=by
  rw[<-u];refine(bt _ _ N (by omega)).trans ?_;rw[<-v,<-g];exact eA _ _ _
 have oT:a.heap[N+2]?=oa (oB #[oy od,oe ⟨#[]⟩] 32 (0,0)):=by rw[<-u,<-J];exact alloc_at _ _
 have D:Mk m p L X V I S O s a:=h.grow (by rw[g];exact K);have pN:m<N:=by have:=aa h.row;omega
 have oX:¬(N=m\/O N):=by rintro(h1|h1);omega;have:=(h.ol N h1).2;omega
 have hst:∀(c:cC bo),c.size=2->(cM ⟨o.heap.size,0,ob⟩ [oy od,oe ⟨#[]⟩] 0).run ac (o.alloc (oB c 32))= .ok () (o.alloc (oB #[oy od,oe ⟨#[]⟩] 32)):=λc hc=>
  cf (P:=ac) o 32 c #[oy od,oe ⟨#[]⟩] (by show _=oa 2;kernel_rfl) hc (by simp[bp])
 have oY:bj w.heap.size w a:=by rw[g];exact K
 have pi:=zH hst;have pj:=zH v;have pk:=zH u;have pl:=zH oY;have pm:=zH R;have pP:=zH oX;have pS:=zH oS;have pT:=zH g;have pn:cr (zS 218 #[ox (oa ⟨m,0,ob⟩),oe b] a (Z U (z.2:ct))):=jV b j z hj hn hl a D;have pb:cr (zP 219 #[ox (oa ⟨m,0,ob⟩),Z U (z.2:ct)] a (oA #[oy y.1,oe y.2])):=lJ z.2 y hy a D;have po:=zH D;clear h v u oR K oS D hst oY oX hj hn hl hy;go_enter mA,mj
 go_upto_region 1 with(fail)
 rw[pj.out];have pp:=pi.out
 go_upto_region 2 with(fail)
 rw[pk.out];(try simp only[J]);clear pp;obtain⟨⟨a0,a1,a2,a3,a4,a5,a6⟩,_,pw⟩:=bR R;obtain⟨⟨e0,e1⟩,_,pZ⟩:=bg oT;clear R oT;have px:=λ(W:World)=>xn oc y.2 W;have py:cr (zP 219 #[ox (oa ⟨m,0,ob⟩),Z U (z.2:ct)] a (oA #[oy oc,oe y.2])):=by have:=pb.out;rw[hp] at this;exact this
 clear pb hp
 go_upto_region 14 with(first
  |(go_at_call 218;refine pn.out.mono ?_;rintro e a ⟨rfl,rfl⟩)
  |(go_at_call 219;refine py.out.mono ?_;rintro e w4 ⟨rfl,pc⟩;have Y:=zH pc;clear pc))
 clear px;have k4:=po.out.grow Y.out;have pd:=(Y.out.block N pw).trans pm.out;obtain⟨⟨b0,b1,b2,b3,b4,b5,b6⟩,_,qe⟩:=bR pd;have pB:=zH (eP ⟨9,x,(z.2:ct),0,0,d,f⟩ w4 k4 ph);have pD:cr (∀G,bB m p L X V (I++[⟨9,x,(z.2:ct),0,0,d,f⟩]) S O w4 G->bB m p L X V (I++[⟨9,x,(z.2:ct),0,0,d,f⟩]) S O w G):=λG h5=>(h5.below Y.out).below pl.out;clear k4 pd a0 a1 a2 a3 a4 a5 a6 e0 e1
 go_wp2_with (go_at_call 223;refine pB.out.mono ?_;rintro e G ⟨rfl,pf⟩;have pH:=zH (pD.out _ pf);clear pf)
 go_ret;exact⟨rfl,pH.out⟩
theorem tu {m:bw}{p:Pg}{L:bw}{X:Fx}{V:bh Ty}{I:bh dF}{S:bh (ap×bw)}{O:bw->Prop}{s:Sl}(n:ct)(b:ap)(g j:ct)(R:Ty)(x:ct)(w:World)(h:Mk m p L X V I S O s w)(pw:V.length+1<=1000)(px:I.length+1<=1000):
  et ac 217 #[ox (oa ⟨m,0,ob⟩),oA #[Z U 7,Z U n,oe b,oe ⟨#[]⟩,ot ob 0 0,Z U g,Z U j],oA #[oy R.1,oe R.2],Z U x] w λe w'=>e= oE (Z U (uI x V))/\bB m p L X (yA x V (oc,b)) (I++[⟨12,uI x V,0,jR p b,0,g,j⟩]) S O w w':=by
 obtain⟨N,v⟩:=zE w.heap.size;obtain⟨y,D⟩:=zE ((w.alloc (oB #[Z U 7,Z U n,oe b,oe ⟨#[]⟩,ot ob 0 0,Z U g,Z U j] 313)).alloc (oB #[oy R.1,oe R.2] 32));obtain⟨o,A⟩:=zE (y.alloc (oB #[oy od,oe ⟨#[]⟩] 32));have pf:=oL D v;have oR:y.heap.size=N+2:=by rw[<-D];simp[v]
 have oS:bj N w o:=by rw[<-A];exact pf.alloc (by omega) _
 have ph:o.heap.size=N+3:=by rw[<-A];simp[oR]
 have oT:o.heap[N]?=oa (oB #[Z U 7,Z U n,oe b,oe ⟨#[]⟩,ot ob 0 0,Z U g,Z U j] 313 (0,0)):=by
  rw[<-A];refine(bt _ _ N (by omega)).trans ?_;rw[<-D,<-v];exact eA _ _ _
 have pi:o.heap[N+2]?=oa (oB #[oy od,oe ⟨#[]⟩] 32 (0,0)):=by rw[<-A,<-oR];exact alloc_at _ _
 have h3:Mk m p L X V I S O s o:=h.grow (by rw[v];exact oS);have qs:m<N:=by have:=aa h.row;omega
 have pj:¬(N=m\/O N):=by rintro(h1|h1);omega;have:=(h.ol N h1).2;omega
 have hst:∀(c:cC bo),c.size=2->(cM ⟨y.heap.size,0,ob⟩ [oy od,oe ⟨#[]⟩] 0).run ac (y.alloc (oB c 32))= .ok () (y.alloc (oB #[oy od,oe ⟨#[]⟩] 32)):=λc hc=>
  cf (P:=ac) y 32 c #[oy od,oe ⟨#[]⟩] (by show _=oa 2;kernel_rfl) hc (by simp[bp])
 have pk:bj w.heap.size w o:=by rw[v];exact oS
 have py:=zH hst;have pB:=zH D;have pD:=zH A;have pH:=zH pk;have pL:=zH oT;have pN:=zH pj;have qt:=zH ph;have qu:=zH v;have pP:=zH (mZ x (oc,b) o h3 pw);clear h D A pf oS ph h3 hst pk pj;go_enter mA,mj
 go_upto_region 1 with(fail)
 rw[pB.out];have pS:=py.out
 go_upto_region 2 with(fail)
 rw[pD.out];(try simp only[oR]);clear pS;obtain⟨⟨a0,a1,a2,a3,a4,a5,a6⟩,_,qv⟩:=bR oT;obtain⟨⟨e0,e1⟩,_,qS⟩:=bg pi;clear oT pi
 go_upto_region 33 with(go_at_call 246;refine pP.out.mono ?_;rintro e d ⟨rfl,Y⟩;have pT:=zH Y;clear Y)
 obtain⟨O4,s4,G,x4,o4⟩:=pT.out;have oX:=x4.heap pL.out pN.out;have pZ:=aa oX;have Y:=aa G.row;have pl:∀W,bj d.heap.size d W->W.cell? ⟨N,0,ob⟩=oa (Z U 7)/\W.cell? ⟨N,1,ob⟩=oa (Z U n)/\W.cell? ⟨N,2,ob⟩=oa (oe b)/\W.cell? ⟨N,3,ob⟩=oa (oe ⟨#[]⟩)/\W.cell? ⟨N,4,ob⟩=oa (ot ob 0 0)/\W.cell? ⟨N,5,ob⟩=oa (Z U g)/\W.cell? ⟨N,6,ob⟩=oa (Z U j)/\W.cell? ⟨m,0,ob⟩=oa (ot (oa ⟨p.pA,0,ob⟩) 1 p.pC)/\W.cell? ⟨m,1,ob⟩=oa (ot (oa ⟨p.qA,0,ob⟩) 1 p.qC):=λW q=>by
  have u:=(q.block N pZ).trans oX;have r2:=(G.grow q).row;exact⟨(rowAt u 0 rfl).1,(rowAt u 1 rfl).1,(rowAt u 2 rfl).1,(rowAt u 3 rfl).1,(rowAt u 4 rfl).1,(rowAt u 5 rfl).1,(rowAt u 6 rfl).1,(rowAt r2 0 rfl).1,(rowAt r2 1 rfl).1⟩
 have pm:∀W,bj d.heap.size d W->zP 212 #[oA #[ot (oa ⟨p.pA,0,ob⟩) 1 p.pC,ot (oa ⟨p.qA,0,ob⟩) 1 p.qC],oe b] W (Z U (jR p b)):=λW q=>dM b W (G.grow q).pg;have qe:cr (∀W,bj d.heap.size d W->et ac 223 #[ox (oa ⟨m,0,ob⟩),oA #[Z U 12,Z U (uI x V),Z U 0,Z U 0,Z U (jR p b),Z U 0,oe ⟨#[]⟩,ot ob 0 0,ot ob 0 0,Z U 0,Z U 0,Z U g,Z U j]] W λe w'=>e= oE (Z U (I.length:ct))/\bB m p L X (yA x V (oc,b)) (I++[⟨12,uI x V,0,jR p b,0,g,j⟩]) S O w w'):=λW q=>
  (eP ⟨12,uI x V,0,jR p b,0,g,j⟩ W (G.grow q) px).mono λe w5 h5=>⟨h5.1,(bB.trans x4 o4 (h5.2.below q)).below pH.out⟩
 have f:=zH pl;have qk:=zH pm;obtain⟨J,oY⟩:=zE ((λw'=>bj d.heap.size d w'):World->Prop);have pn:∀w,J w->bj d.heap.size d w:=λw h=>by rw[<-oY] at h;exact h
 have pb:∀w,bj d.heap.size d w->J w:=λw h=>by rw[<-oY];exact h
 have pc:J d.drew:=pb _ (an _ _).drew;have a:=zH pn;have qn:=zH pb;clear G x4 o4 oX pl pm oY pn pb a0 a1 a2 a3 a4 a5 a6 e0 e1 Y;refine ai 12 J (by kernel_rfl) ?_;refine zT 0 rfl (λw h=>f.out w (a.out w h)) ?_;(try go_simp);refine zT 1 rfl (λw h=>f.out w (a.out w h)) ?_;(try go_simp);refine zT 2 rfl (λw h=>f.out w (a.out w h)) ?_;(try go_simp);refine zT 3 rfl (λw h=>f.out w (a.out w h)) ?_;(try go_simp);refine zT 4 rfl (λw h=>f.out w (a.out w h)) ?_;(try go_simp);refine zT 5 rfl (λw h=>f.out w (a.out w h)) ?_;(try go_simp);refine zT 6 rfl (λw h=>f.out w (a.out w h)) ?_;(try go_simp);refine zT 7 rfl (λw h=>f.out w (a.out w h)) ?_;(try go_simp);refine zT 9 rfl (λw h=>f.out w (a.out w h)) ?_;(try go_simp);refine zT 10 rfl (λw h=>f.out w (a.out w h)) ?_;(try go_simp);refine zO 8 rfl λK' K=> ?_;go_simp;go_at_call 212;refine(qk.out _ (a.out _ (by assumption))).mono ?_;rintro e w5 ⟨rfl,po⟩;have pd:J w5:=qn.out _ ((a.out _ pc).trans (po.mono (a.out _ pc).size));have qq:=zH pd;refine K _ _ pd ?_;clear K;(try go_simp);refine zT 11 rfl (λw h=>f.out w (a.out w h)) ?_;(try go_simp);refine zK rfl λK' K=> ?_;go_simp;go_at_call 223;refine(qe.out _ (a.out _ qq.out)).mono ?_;rintro e w6 ⟨rfl,pp⟩;refine K _ _ ?_;clear K;refine⟨by kernel_rfl, ?_⟩;have qr:=zH pp;clear pp po pd pc;go_wp2;go_ret;exact⟨rfl,qr.out⟩
theorem vk {m:bw}{p:Pg}{L:bw}{X:Fx}{V:bh Ty}{I:bh dF}{S:bh (ap×bw)}{O:bw->Prop}{s:Sl}(pc:X.os= ot ob 0 0)(tb:iv)(ts nm:ap)(g A:bw)(y:Ex)(o:g<L/\∀(j:bw)(u:bo),y.cells.toList[j]?=oa u->∀W,fK p L W->W.cell? ⟨g,j,ob⟩=oa u)(d:ct)(V2:bh Ty)(I2:bh dF)(pl:I2.length+1<=1000)
  (pd:∀W O s,Mk m p L X V I S O s W->et ac 217 #[ox (oa ⟨m,0,ob⟩),oA y.cells,oA #[oy X.rt.1,oe X.rt.2],Z U (-1)] W λe w'=>e= oE (Z U d)/\bB m p L X V2 I2 S O W w')(ln cl:ct)(w:World)(h:Mk m p L X V I S O s w):
  et ac 180 #[ox (oa ⟨m,0,ob⟩),oA #[Z U 8,oy tb,oe ts,oe nm,ot (oa ⟨g,0,ob⟩) 1 A,ot ob 0 0,ot ob 0 0,Z U ln,Z U cl]] w λe w'=>e= oE (.tuple #[])/\bB m p L X V2 (I2++[⟨18,0,d,0,0,ln,cl⟩]) S O w w':=by
 obtain⟨N,D⟩:=zE w.heap.size;obtain⟨a,K⟩:=zE (w.alloc (oB #[Z U 8,oy tb,oe ts,oe nm,ot (oa ⟨g,0,ob⟩) 1 A,ot ob 0 0,ot ob 0 0,Z U ln,Z U cl] 282));have oR:=gq K D;have R:a.heap[N]?=oa (oB #[Z U 8,oy tb,oe ts,oe nm,ot (oa ⟨g,0,ob⟩) 1 A,ot ob 0 0,ot ob 0 0,Z U ln,Z U cl] 282 (0,0)):=by rw[<-K,<-D];exact alloc_at _ _
 have pN:=aa R;have v:Mk m p L X V I S O s a:=h.grow (by rw[D];exact oR);have pf:bj w.heap.size w a:=by rw[D];exact oR
 have pP:=aa v.row;have pS:m<N:=by have:=aa h.row;omega
 have ph:¬(N=m\/O N):=by rintro(v|v);omega;have:=(h.ol N v).2;omega
 have pm:a.cell? ⟨m,15,ob⟩=oa (Z U 0):=(rowAt v.row 15 rfl).1;have pn:a.cell? ⟨m,19,ob⟩=oa (ot ob 0 0):=by rw[<-pc];exact(rowAt v.row 19 rfl).1
 obtain⟨⟨a0,a1,a2,a3,a4,a5,a6,a7,a8⟩,_,_⟩:=dA R;have po:=zH K;have pp:=zH pf;have pw:=zH R;have px:=zH ph;have pT:=zH D;obtain⟨G,oS⟩:=zE ((λw':World=>w'.cell? ⟨g,0,ob⟩=oa (Z U y.kind)/\w'.cell? ⟨g,1,ob⟩=oa (Z U y.n)/\w'.cell? ⟨g,2,ob⟩=oa (oe y.nm)/\w'.cell? ⟨g,3,ob⟩=oa (oe ⟨#[]⟩)/\w'.cell? ⟨g,4,ob⟩=oa (ot ob 0 0)/\w'.cell? ⟨g,5,ob⟩=oa (Z U y.ln)/\w'.cell? ⟨g,6,ob⟩=oa (Z U y.cl)/\w'.cell? ⟨m,2,ob⟩=oa (oy X.rt.1)/\w'.cell? ⟨m,3,ob⟩=oa (oe X.rt.2)/\w'.cell? ⟨N,4,ob⟩=oa (ot (oa ⟨g,0,ob⟩) 1 A)):World->Prop);have pi:∀w,G w->_:=λw h=>by rw[<-oS] at h;exact h
 have oT:∀W V I O s,Mk m p L X V I S O s W->W.cell? ⟨N,4,ob⟩=oa (ot (oa ⟨g,0,ob⟩) 1 A)->G W:=λW V I O s b hc=>by
  rw[<-oS];exact⟨o.2 0 _ rfl W b.pg,o.2 1 _ rfl W b.pg,o.2 2 _ rfl W b.pg,o.2 3 _ rfl W b.pg,o.2 4 _ rfl W b.pg,o.2 5 _ rfl W b.pg,o.2 6 _ rfl W b.pg,(rowAt b.row 2 rfl).1,(rowAt b.row 3 rfl).1,hc⟩
 have oX:Mk m p L X V I S O s a.drew:=v.grow (an _ _).drew;have py:G a.drew:=oT _ _ _ _ _ oX a4;have hV:=pd a.drew O s oX;unfold Ex.cells at hV;have HV:=zH hV;have f:=zH pi;have pB:=zH oT;clear h v K oR R pf ph pc oX oS pi oT hV pd o;go_enter func180,ntmps180
 go_upto_region 1 with(fail)
 rw[po.out]
 go_upto_region 24 with(fail)
 refine ai 10 G (by kernel_rfl) ?_;refine zT 0 rfl f.out ?_;(try go_simp);refine zT 1 rfl f.out ?_;(try go_simp);refine zT 2 rfl f.out ?_;(try go_simp);refine zT 3 rfl f.out ?_;(try go_simp);refine zT 4 rfl f.out ?_;(try go_simp);refine zT 5 rfl f.out ?_;(try go_simp);refine zT 6 rfl f.out ?_;(try go_simp);refine zT 7 rfl f.out ?_;(try go_simp);refine zT 8 rfl f.out ?_;(try go_simp);refine zO 9 rfl λK' J=> ?_;go_simp;go_at_call 217;refine HV.out.mono ?_;rintro e Y ⟨rfl,O4,s4,k4,x4,o4⟩;have oY:Ext (λq=>q=m\/O q) a Y:=((Ext.refl _ _).drew).trans x4 (λq h=> .inl h);have pb:=oY.heap pw.out px.out;have pj:G Y:=pB.out _ _ _ _ _ k4 (rowAt pb 4 rfl).1;obtain⟨⟨b0,b1,b2,b3,b4,b5,b6,b7,b8⟩,_,pZ⟩:=dA pb;have pD:=zH (eP ⟨18,0,d,0,0,ln,cl⟩ Y k4 pl);have pH:cr (∀w5,bB m p L X V2 (I2++[⟨18,0,d,0,0,ln,cl⟩]) S O4 Y w5->bB m p L X V2 (I2++[⟨18,0,d,0,0,ln,cl⟩]) S O w w5):=λw5 h5=>(bB.trans oY o4 h5).below pp.out;refine J _ _ pj ?_;clear J k4 x4 o4 pb a0 a1 a2 a3 a4 a5 a6 a7 a8 pm pn;(try go_simp);refine zK rfl λK' J=> ?_;go_simp;refine J _ _ ?_;clear J;refine⟨by kernel_rfl, ?_⟩;clear pj py oY
 go_wp2_with (go_at_call 223;refine pD.out.mono ?_;rintro e w5 ⟨rfl,pk⟩;have pL:=zH (pH.out _ pk);clear pk)
 go_end0
 exact⟨rfl,pL.out⟩
theorem aY {P:gA}{w:World}{o:fY}{a:Act}{Q:Exit->Act->World->Prop}{K:Act->World->Prop}(s x:Operand)(t:eJ)
  (D:o.op= .call {callee:= .builtin .append,args:=#[s,x],argTypes:=#[t,t]})(e:eJ)(i:TypeInfo)(z:bo)(size mx:bw)(G:P.underlying t=oa (.slice e))(J:P.info? e=oa i)(N:i.zero=oa z)(R:i.size=size)(Y:i.bytes=mx)(h6:z.cells.size=size)(h7:0<size)
  (h:dr Addr)(n cap:bw)(g:bh bo)(hs:a.eval s= ot h n cap)(oS:h=ob->n=0/\cap=0)(oR:g.length=n*size)(oT:∀b,h=oa b->∀j u,g[j]?=oa u->w.cell? (b.add j)=oa u)
  (q:Addr)(m c:bw)(d:bh bo)(hx:a.eval x= ot (oa q) m c)(hn:d.length=m*size)(hc:∀j u,d[j]?=oa u->w.cell? (q.add j)=oa u)(oX:∀u∈d,u.oneCell'=oc)
  (oY:cap<n+m)(b1:n+m<=cX)(b2:(n+m)*mx<=140737488355328)
  (hK:∀f w',w'.ownsRow w.heap.size e size f (n+m) (g++d)->w.grownBy w' ob->K (a.put o.dst f) w'):ia P o a w K Q:=by
 cases h with
 |some b=>
  obtain⟨f,w',v,y,A⟩:=run_append_arg_grows (P:=P) w t o.type e i z size mx G J N R Y h6 h7 b n cap g oR (oT b rfl) q m c d hn hc oY b1 b2;unfold ia;simp[execOp,D,resolve,invoke,builtin,hs,hx,v,eb];exact hK f w' y A
 |none=>
  obtain⟨rfl,rfl⟩:=oS rfl;obtain rfl:g=[]:=db (by simpa using oR);obtain⟨f,w',v,y,A,_⟩:=run_append_own (P:=P) w w.heap.size t o.type e i z size mx G J N R Y h6 h7 (ot ob 0 0) 0 [] (World.ownsRow_nil w _ e size) q m c d hn hc oX b1 b2 (bl _);unfold ia;simp[execOp,D,resolve,invoke,builtin,hs,hx,v,eb];exact hK f w' y A
end Go.Proofs.YtjomgckjhcfbgaaGreat
