/- Walks. -/
import Derived.Test.YtjomgckjhcfbgaaGreatV2
set_option maxRecDepth 100000
set_option maxHeartbeats 64000000
set_option linter.all false
namespace Go.Proofs.YtjomgckjhcfbgaaGreat
open Go.RowKit
open Go.Proofs.Tryz renaming prog→ac,underlying32→dg,underlying113→la
open Go.RowKit.Below renaming refl→an,heap_alloc→bt,heap_setCell→cH
open _root_ renaming ByteArray→ap,List→bh,Nat→bw,Int→ct,Array→cC,beq_eq_false_iff_ne→cL,Option→dr,False→fW,Bool→iv,decide_eq_true_eq→lP,beq_self_eq_true→m8,beq_iff_eq→nr
open Go renaming heap_setCell_same→aq,Value→bo,run_storeCells_new→cf,cell_of_row→ci,storeCells→cM,bodyPost_ret→cP,results_cell_row→cV,maxLen→cX,Calls→et,heap_alloc2_old→eA,wpQuiet_nil→eC,TypeId→eJ,beq_toListBytes→fR,heap_alloc2_new→gx,info_parts→iu
open Go.RowKit renaming Below→bj,Hid→cr
open _root_.Nat renaming le_refl→bl,lt_of_lt_of_le→cg,le_trans→cv,zero_add→cJ,zero_le→da,add_zero→ix,le_of_lt→li,succ_mul→mw
open Go.Value renaming oneCell'→bp,int→dv,ownBlock→eL,string→oe,slice→ot,pointer→ox,bool→oy,agg→oA,int→Z
open _root_.List renaming getElem?_eq_some_iff→ca,getElem?_eq_getElem→ce,mem_of_getElem?→cA,flatMap_cons→cY,take_length→dl,drop_eq_getElem_cons→ep,getElem?_append_right→eI,any_eq_true→ie,getElem?_append_left→mp,drop_length→m9
open Go.Exit renaming inBlock→cD
open Go.Addr renaming add_lit→cI
open _root_.Option.some renaming inj→cN,injEq→fa
open Go.Value.slice renaming injEq→ez
open Go.Op renaming equalIn→js
open Go.Addr.mk renaming injEq→nF
open _root_.Option renaming some→oa,none→ob
open _root_.Bool renaming true→oc,false→od
open Go.Obj renaming cells→oB
open Go.Ending renaming returned→oE
open Go.IntKind renaming i64→U
open Tryz
theorem Sm.inn.other {b q:bw}{w w':World}{s:Sm}{d:cC bo}{t:eJ}{f:bw×bw}(h:s.inn b w)(j:w.heap[q]?=oa (oB d t f))(o:t≠313)(u:Ext (·=q) w w'):s.inn b w':=by
 rcases h with h|⟨g,cap,v,y,a⟩
 ·exact .inl h
 ·refine .inr ⟨g,cap,v,y,u.heap a (λe=> ?_)⟩
  subst e;rw[j] at a;simp only[fa,Obj.cells.injEq] at a;exact o a.2.1
def wL (r lb cap:bw)(T:bh Tok)(w:World)(b:ap)(y:Ty)(d:bh lv)(k:bw)(e:Ending)(w':World):Prop:=
 ∃(a:dr Addr) (c:bw) (ss:bh Sm) (f g:ct),e= oE (oA #[oe b,ot ob 0 0,oy y.1,oe y.2,ot a ss.length c,Z U f,Z U g])/\ss.map Sm.shp=d/\
  w'.ownsRow w.heap.size 282 9 (ot a ss.length c) ss.length (ss.flatMap Bi)/\(∀s∈ss,s.inn w.heap.size w')/\aR r lb cap T k w w'
theorem kK {r lb cap:bw}{T:bh Tok}{i j k:bw}{t x u v o z:Tok}{y:Ty}{pj:bh lv}(w:World)(h:Rd r lb cap T i w)(ht:T[i]?=oa t)(hy:qU T i y j)(hx:T[j]?=oa x)(pN:x.kind=1)(hu:T[j+1]?=oa u)(pP:bK u dh=oc)
  (G:T[j+2]?=oa v)(pk:bK v jP=oc)(ho:T[j+3]?=oa o)(pS:bK o jo=oc)(f:eH T (j+4) pj k)(hz:T[k]?=oa z)(b:bK z fw=oc):
  et ac 174 #[ox (oa ⟨r,0,ob⟩)] w (wL r lb cap T w x.text y pj (k+1)):=by
 obtain⟨N,d⟩:=zE w.heap.size;obtain⟨Y,J⟩:=zE (w.alloc (oB #[oe ⟨#[]⟩,ot ob 0 0,oy od,oe ⟨#[]⟩,ot ob 0 0,Z U 0,Z U 0] 233));have pl:=gq J d;have pT:Y.heap.size=N+1:=by rw[<-J];simp[d]
 have pZ:Y.heap[N]?=oa (oB #[oe ⟨#[]⟩,ot ob 0 0,oy od,oe ⟨#[]⟩,ot ob 0 0,Z U 0,Z U 0] 233 (0,0)):=by rw[<-J,<-d];exact alloc_at _ _
 have g:=h.grow (by rw[d];exact pl);have qe:=zH (aP Y g ht);have se:cr (∀W,Rd r lb cap T i W->et ac 209 #[ox (oa ⟨r,0,ob⟩)] W λe w'=>e= oE (oA #[oy y.1,oe y.2])/\aR r lb cap T j W w'):=λW a=>lu W a hy;have sf:cr (∀W,Rd r lb cap T j W->et ac 208 #[ox (oa ⟨r,0,ob⟩)] W λe w'=>e= oE (.tuple #[oe x.text,oA #[Z U x.ln,Z U x.cl]])/\aR r lb cap T (j+1) W w'):=λW a=>bT W a hx pN;have qk:cr (∀W,Rd r lb cap T (j+1) W->et ac 207 #[ox (oa ⟨r,0,ob⟩),oe dh] W λe w'=>e= oE (.tuple #[])/\aR r lb cap T (j+2) W w'):=λW a=>aH dh W a hu pP;have pm:cr (∀W,Rd r lb cap T (j+2) W->zP 172 #[ox (oa ⟨r,0,ob⟩),oe jP] W (oy (bK v jP))):=λW a=>aL jP W a G;rw[pk] at pm;have qn:cr (∀W,Rd r lb cap T (j+2) W->et ac 207 #[ox (oa ⟨r,0,ob⟩),oe jP] W λe w'=>e= oE (.tuple #[])/\aR r lb cap T (j+3) W w'):=λW a=>aH jP W a G pk;have sg:cr (∀W,Rd r lb cap T (j+3) W->et ac 210 #[ox (oa ⟨r,0,ob⟩),Z U 0] W (sS r lb cap T W pj (k+1))):=λW a=>o9 0 (by decide) (by decide) W a ho pS f hz b;unfold dh at qk;unfold jP at pm qn;simp only[Tok.cells] at qe;have hst:∀(w:World)(c:cC bo),c.size=7->(cM ⟨w.heap.size,0,ob⟩ [oe ⟨#[]⟩,ot ob 0 0,oy od,oe ⟨#[]⟩,ot ob 0 0,Z U t.ln,Z U t.cl] 0).run ac (w.alloc (oB c 233))= .ok () (w.alloc (oB #[oe ⟨#[]⟩,ot ob 0 0,oy od,oe ⟨#[]⟩,ot ob 0 0,Z U t.ln,Z U t.cl] 233)):=λw c hc=>
  cf (P:=ac) w 233 c #[oe ⟨#[]⟩,ot ob 0 0,oy od,oe ⟨#[]⟩,ot ob 0 0,Z U t.ln,Z U t.cl] (by show _=oa 7;kernel_rfl) hc (by simp[bp])
 have sk:=zH hst;have tj:r<N:=by rw[<-d];exact h.rlt
 have oR:cr (lb<N):=by unfold cr;rw[<-d];exact h.lt
 have sn:=zH J;have so:=zH pl;have qq:=zH pT;have sq:=zH pZ;have H1:=zH g;have HN:=zH d;clear h ht hy hx pN hu pP G pk ho pS f hz b J pl pT pZ g hst;have sr:=λW=>yl t.kind t.text t.n t.ln t.cl W;go_enter func174,ntmps174
 go_upto_region 2 with(go_at_call 170;rw[sn.out];refine qe.out.mono ?_;rintro e w2 ⟨rfl,qr⟩;have sx:=sk.out w2;have qs:=zH qr;clear qr)
 clear sx sr;obtain⟨B,hB⟩:=zE w2.heap.size;obtain⟨W3,oS⟩:=zE (w2.alloc (oB #[oe ⟨#[]⟩,ot ob 0 0,oy od,oe ⟨#[]⟩,ot ob 0 0,Z U t.ln,Z U t.cl] 233));rw[hB,oS];have oT:=zD oS qs;have tl:N+1<=B:=by rw[<-hB,<-qq.out];exact qs.out.size
 have qt:W3.heap[B]?=oa (oB #[oe ⟨#[]⟩,ot ob 0 0,oy od,oe ⟨#[]⟩,ot ob 0 0,Z U t.ln,Z U t.cl] 233 (0,0)):=by rw[<-oS,<-hB];exact alloc_at _ _
 have qu:=(oT.block N (by have:=qq.out;omega)).trans sq.out;have qv:aR r lb cap T i w W3:=⟨H1.out.grow oT,(Ext.of_below_size (M:=(·=r)) (show bj w.heap.size w Y by rw[d];exact so.out)).trans (Ext.of_below_size (M:=(·=r)) oT) (λk b=> .inl b)⟩
 have qS:=zH qv;have sy:=zH qt;have sB:=zH qu;clear hB oS oT qt qu qv
 go_upto_region 3 with(go_at_call 209;refine(se.out W3 qS.out.1).mono ?_;rintro e w4 ⟨rfl,pn⟩;have qT:=zH pn;have po:=pn.2.heap sy.out (by omega);have sE:=zH po;obtain⟨⟨a0,a1,a2,a3,a4,a5,a6⟩,⟨b0,b1,b2,b3,b4,b5,b6⟩,oX⟩:=bR po;clear pn po)
 obtain⟨W5,oY⟩:=zE ((w4.setCell ⟨B,2,ob⟩ (oy y.1)).setCell ⟨B,3,ob⟩ (oe y.2));rw[oY];have pb:Ext (·=B) w4 W5:=by rw[<-oY];exact ae (ae (Ext.refl _ _) _) _
 have ra:W5.heap[B]?=oa (oB #[oe ⟨#[]⟩,ot ob 0 0,oy y.1,oe y.2,ot ob 0 0,Z U t.ln,Z U t.cl] 233 (0,0)):=by
  rw[<-oY];have g:_=oa (Obj.cells #[oe ⟨#[]⟩,ot ob 0 0,oy y.1,oe ⟨#[]⟩,ot ob 0 0,Z U t.ln,Z U t.cl] 233 (0,0)):=aq w4 B 2 _ _ (oy y.1) sE.out;exact aq _ B 3 _ _ (oe y.2) g
 have rb:=pb.heap (qT.out.2.heap sB.out (by omega)) (show¬N=B by omega);have pp:=qS.out.trans qT.out;have rc:aR r lb cap T j w W5:=⟨pp.1.ext pb (by omega) (by have:=oR.out;omega),pp.2.trans pb (λk b=> .inr (by omega))⟩
 have re:=zH rc;have sL:=zH ra;have sR:=zH rb;clear oY pb ra rb pp rc a0 a1 a2 a3 a4 a5 a6 b0 b1 b2 b3 b4 b5 b6 oX
 go_upto_region 4 with(go_at_call 208;refine(sf.out W5 re.out.1).mono ?_;rintro e w6 ⟨rfl,pw⟩;have rh:=zH pw;have px:=pw.2.heap sL.out (by omega);have sT:=zH px;obtain⟨⟨a0,a1,a2,a3,a4,a5,a6⟩,⟨b0,b1,b2,b3,b4,b5,b6⟩,oX⟩:=bR px;clear pw px)
 obtain⟨W7,pc⟩:=zE (w6.setCell ⟨B,0,ob⟩ (oe x.text));rw[pc];have pd:Ext (·=B) w6 W7:=by rw[<-pc];exact ae (Ext.refl _ _) _
 have rj:W7.heap[B]?=oa (oB #[oe x.text,ot ob 0 0,oy y.1,oe y.2,ot ob 0 0,Z U t.ln,Z U t.cl] 233 (0,0)):=by rw[<-pc];exact aq _ B 0 _ _ _ sT.out
 have rk:=pd.heap (rh.out.2.heap sR.out (by omega)) (show¬N=B by omega);have py:=re.out.trans rh.out;have rl:aR r lb cap T (j+1) w W7:=⟨py.1.ext pd (by omega) (by have:=oR.out;omega),py.2.trans pd (λk b=> .inr (by omega))⟩
 have pB:=zH rl;have rm:=zH rj;have sX:=zH rk;clear pc pd rj rk py rl a0 a1 a2 a3 a4 a5 a6 b0 b1 b2 b3 b4 b5 b6 oX
 go_upto_region 5 with(go_at_call 207;refine(qk.out W7 pB.out.1).mono ?_;rintro e w8 ⟨rfl,rn⟩;have ro:=zH rn;clear rn)
 go_loopw [4] (λ_ wr=>wr=w8) (λ_ _=>0)
 case atStart=>rfl
 case round=>
  obtain rfl:=hrel
  go_upto_region 11 with(go_at_call 172;refine(pm.out _ ro.out.1).mono ?_;rintro e w9 ⟨rfl,rr⟩;have sY:=zH rr;clear rr)
  have rv:=zH (ro.out.grow sY.out)
  go_upto_region 12 with(go_at_call 207;refine(qn.out _ rv.out.1).mono ?_;rintro e ta ⟨rfl,rx⟩;have K:=zH (rv.out.trans rx);clear rx)
  have rB:w.heap.size<=ta.heap.size:=cv pB.out.2.size K.out.2.size
  go_upto_region 13 with(go_at_call 210;refine(sg.out _ K.out.1).mono ?_;rintro e A ⟨v,ss,rfl,rI,pf,rK,pD⟩;obtain⟨D,c,G⟩:=au pf;subst G;have tc:=zH rI;have te:=zH (aD pf rB);have tf:cr (∀s∈ss,s.inn w.heap.size A):=(λs f=>(rK s f).mono rB);have rL:=zH (K.out.trans pD);have pH:=(K.out.trans pD).2.heap rm.out (by omega);have rN:cr (∀q,eL (ot D ss.length c)=oa q->B<q):=(λq R=>by have g:=(ah pf R).1;have h2:=aa (K.out.2.heap rm.out (by omega));omega);have th:=zH pH;obtain⟨⟨a0,a1,a2,a3,a4,a5,a6⟩,⟨b0,b1,b2,b3,b4,b5,b6⟩,oX⟩:=bR pH;clear rI pf rK pD pH)
  have pL:=rL.out.2.heap sX.out (show¬N=r by omega);have ti:=zH pL;obtain⟨⟨p0,p1,p2,p3,p4,p5,p6⟩,⟨q0,q1,q2,q3,q4,q5,q6⟩,tm⟩:=bR pL;clear pL;go_wp2;(try simp only[cD,Exit.then]);have rS:(A.setCell ⟨B,4,ob⟩ (ot D ss.length c)).heap[N]?=_:=(cH _ _ _ N (by show N≠B;omega)).trans ti.out;refine cP (cV (P:=ac) rfl _ _ N 233 _ (0,0) _ rfl (dI rS) underlying233 rfl (by kernel_rfl)) rfl ?_;have ph:Ext (·=B) A (A.setCell ⟨B,4,ob⟩ (ot D ss.length c)):=Ext.set1 A B 4 _;have pi:=bi (A.setCell ⟨B,4,ob⟩ (ot D ss.length c)) N (oe x.text) (ot ob 0 0) (oy y.1) (oe y.2) (ot D ss.length c) (Z U t.ln) (Z U t.cl);have hM:=(pB.out.trans rL.out)
  refine⟨D,c,ss,t.ln,t.cl,rfl,tc.out, ?_,λs f=> ?_,(hM.1.ext ph (by omega) (by have:=oR.out;omega)).ext pi (by omega) (by have:=oR.out;omega),(hM.2.trans ph (λk b=> .inr (by omega))).trans pi (λk b=> .inr (by omega))⟩
  ·exact af (af te.out ph (λq R e=>by have:=rN.out q R;omega)) pi (λq R e=>by have:=rN.out q R;omega)
  ·exact((tf.out s f).other th.out (by decide) ph).other rS (by decide) pi
def rf (w:World)(lb:bw)(T:bh Tok):Prop:=∀(k:bw)(t:Tok),T[k]?=oa t->∀(j:bw)(u:bo),t.cells.toList[j]?=oa u->w.cell? ⟨lb,k*5+j,ob⟩=oa u
def uV (T:bh Tok):Prop:=∀(k:bw)(t:Tok),T[k]?=oa t->(t.kind=5↔k+1=T.length)
theorem pu (lb cap:bw)(T:bh Tok)(w:World)(D:T.length<=1000000)(h0:0<T.length)(o:rf w lb T)(q:uV T):
  zS 169 #[ot (oa ⟨lb,0,ob⟩) T.length cap] w (oy oc):=by
 have v:=zH o;have y:=zH q;clear o q;go_enter func169,ntmps169;go_wp2
 go_loop [3] (λk=>∃j:bw,j<=T.length/\k= Z U (j:ct)) (λk=>T.length-(intOf k).toNat)
 case atStart=>exact⟨0,da _,rfl⟩
 case round=>
  obtain⟨j,G,rfl⟩:=hrel
  by_cases f:j<T.length
  ·have A:(j:ct)<(T.length:ct):=by omega
   obtain⟨t,b⟩:∃t,T[j]?=oa t:=⟨_,ce f⟩
   have u:=v.out j t b 0 _ rfl;rw[ix] at u;have d:=y.out j t b
   by_cases a:t.kind=5
   ·have g:j+1=T.length:=d.1 a
    rw[a] at u;have d1:((j:ct)==(T.length:ct)-1)=oc:=by rw[nr];omega
    clear b d a g;go_wp2
    go_round
    case rel=>exact⟨j+1,f,by go_num⟩
    case measure=>simp[intOf];omega
   ·have g:j+1≠T.length:=λh=>a (d.2 h)
    have d5:(t.kind==5)=od:=by rw[cL];exact a
    have d1:((j:ct)==(T.length:ct)-1)=od:=by rw[cL];omega
    clear b d a g;go_wp2
    go_round
    case rel=>exact⟨j+1,f,by go_num⟩
    case measure=>simp[intOf];omega
  ·have A:¬(j:ct)<(T.length:ct):=by omega
   have J:(0:ct)<(T.length:ct):=by omega
   have K:decide ((0:ct)<(T.length:ct))=oc:=by rw[lP];omega
   go_wp2;go_ret;exact⟨rfl,rfl⟩
theorem zu:(ac.info? 90).map (λi=>(i.zero,i.size,i.bytes))=oa (oa (oA #[oe ⟨#[]⟩,ot ob 0 0,Z U 0,Z U 0]),4,56):=by kernel_rfl
theorem zw:(ac.info? 233).map (λi=>(i.zero,i.size,i.bytes))=oa (oa (oA #[oe ⟨#[]⟩,ot ob 0 0,oy od,oe ⟨#[]⟩,ot ob 0 0,Z U 0,Z U 0]),7,104):=by kernel_rfl
structure Pg where
 snm:ap
 fs:bh Fd
 fA:dr Addr
 fC:bw
 sl:ct
 sc:ct
 nm:ap
 ret:Ty
 ss:bh Sm
 bA:dr Addr
 bC:bw
 gl:ct
 gc:ct
 pA:bw
 pC:bw
 qA:bw
 qC:bw
def Pg.stc (p:Pg):bh bo:=[oe p.snm,ot p.fA p.fs.length p.fC,Z U p.sl,Z U p.sc]
def Pg.fnc (p:Pg):bh bo:=[oe p.nm,ot ob 0 0,oy p.ret.1,oe p.ret.2,ot p.bA p.ss.length p.bC,Z U p.gl,Z U p.gc]
def Pg.cells (p:Pg):cC bo:=#[ot (oa ⟨p.pA,0,ob⟩) 1 p.pC,ot (oa ⟨p.qA,0,ob⟩) 1 p.qC]
structure Pg.inn (p:Pg)(B:bw)(w:World):Prop where
 fields:w.ownsRow B 92 5 (ot p.fA p.fs.length p.fC) p.fs.length (p.fs.flatMap oM)
 strs:w.ownsRow B 90 4 (ot (oa ⟨p.pA,0,ob⟩) 1 p.pC) 1 p.stc
 stmts:w.ownsRow B 282 9 (ot p.bA p.ss.length p.bC) p.ss.length (p.ss.flatMap Bi)
 exprs:∀s∈p.ss,s.inn B w
 fns:w.ownsRow B 233 7 (ot (oa ⟨p.qA,0,ob⟩) 1 p.qC) 1 p.fnc
def rq (w:World)(snm:ap)(l:bh (ap×Ty))(nm:ap)(y:Ty)(a:bh lv)(e:Ending)(w':World):Prop:=
 ∃p:Pg,e= oE (.tuple #[oA p.cells,oA #[Z U 0,Z U 0,Z U 0,Z U 0]])/\p.snm=snm/\p.fs.map Fd.shp=l/\p.nm=nm/\p.ret=y/\p.ss.map Sm.shp=a/\p.inn w.heap.size w'/\bj w.heap.size w w'
structure mX (T:bh Tok)(snm:ap)(l:bh (ap×Ty))(nm:ap)(y:Ty)(shs:bh lv):Prop where
 ended:uV T
 short:T.length<=1000000
 toks:∃(k j m:bw) (t x u z z2 t2 x2 u2 v2 o2 s2 e2:Tok),T[0]?=oa t/\bK t fU=oc/\T[1]?=oa x/\x.kind=1/\x.text=snm/\T[2]?=oa u/\bK u jo=oc/\ed T 3 l k/\T[k]?=oa z/\bK z fw=oc/\T[k+1]?=oa z2/\bK z2 bL=oc/\
  T[k+2]?=oa t2/\bK t2 fU=od/\qU T (k+2) y j/\T[j]?=oa x2/\x2.kind=1/\x2.text=nm/\T[j+1]?=oa u2/\bK u2 dh=oc/\T[j+2]?=oa v2/\bK v2 jP=oc/\T[j+3]?=oa o2/\bK o2 jo=oc/\eH T (j+4) shs m/\T[m]?=oa s2/\bK s2 fw=oc/\
  T[m+1]?=oa e2/\e2.kind=5
def AP (N lb cap:bw)(T:bh Tok)(a:World)(j:bw)(wr:World):Prop:=Rd (N+2) lb cap T j wr/\Ext (λq=>q=N+2\/q=N+3) a wr
def zx (lb cap:bw)(T:bh Tok)(snm:ap)(l:bh (ap×Ty))(nm:ap)(y:Ty)(b:bh lv)(k m N:bw)(a:World)(wr:World):Prop:=
 (AP N lb cap T a 0 wr/\wr.heap[N+3]?=oa (oB #[ot ob 0 0,ot ob 0 0] 179 (0,0)))\/
 (∃p:Pg,AP N lb cap T a (k+2) wr/\p.snm=snm/\p.fs.map Fd.shp=l/\wr.ownsRow (N+4) 92 5 (ot p.fA p.fs.length p.fC) p.fs.length (p.fs.flatMap oM)/\wr.ownsRow (N+4) 90 4 (ot (oa ⟨p.pA,0,ob⟩) 1 p.pC) 1 p.stc/\
  wr.heap[N+3]?=oa (oB #[ot (oa ⟨p.pA,0,ob⟩) 1 p.pC,ot ob 0 0] 179 (0,0)))\/
 (∃p:Pg,AP N lb cap T a (m+1) wr/\p.snm=snm/\p.fs.map Fd.shp=l/\p.nm=nm/\p.ret=y/\p.ss.map Sm.shp=b/\p.inn (N+4) wr/\wr.heap[N+3]?=oa (oB p.cells 179 (0,0)))
theorem dn {w:World}{base:bw}{e:eJ}{size n:bw}{v:bo}{xs:bh bo}(h:w.ownsRow base e size v (n+1) xs):∃g c,v= ot (oa ⟨g,0,ob⟩) (n+1) c/\base<=g/\g<w.heap.size:=by
 rcases h.2 with⟨_,a⟩|⟨g,cap,cur,b,a,d,_⟩
 ·cases a
 ·exact⟨g,cap,b,a,aa d⟩
theorem pz {lb cap:bw}{T:bh Tok}{snm K:ap}{l:bh (ap×Ty)}{y:Ty}{pl:bh lv}(w:World)(pB:rf w lb T)(tz:lb<w.heap.size)(Y:mX T snm l K y pl):
  et ac 129 #[ot (oa ⟨lb,0,ob⟩) T.length cap] w (rq w snm l K y pl):=by
 obtain⟨he,hT,k,j,m,t,x,u,z,z2,t2,x2,u2,v2,o2,s2,e2,a1,a2,a3,a4,a5,a6,a7,a8,a9,sq,sr,sx,b1,b2,b3,b4,b5,b6,b7,b8,b9,sy,sB,sE,rc,sL,sR,c1,c2⟩:=Y;obtain⟨N,hN⟩:=zE w.heap.size;obtain⟨W2,pD⟩:=zE ((w.alloc (oB #[ot ob 0 0,ot ob 0 0] 179)).alloc (oB #[Z U 0,Z U 0,Z U 0,Z U 0] 113));obtain⟨R,pi⟩:=zE ((W2.alloc (oB #[ot (oa ⟨lb,0,ob⟩) T.length cap,Z U 0,Z U 0,Z U 0,Z U 0,Z U 0] 269)).alloc (oB #[ot ob 0 0,ot ob 0 0] 179));have re:=oL pD hN;have rh:W2.heap.size=N+2:=by rw[<-pD];simp[hN]
 have rj:bj N w R:=by rw[<-pi];exact(re.alloc (by omega) _).alloc (by simp;omega) _
 have sT:R.heap.size=N+4:=by rw[<-pi];simp[rh]
 have sX:R.heap[N]?=oa (oB #[ot ob 0 0,ot ob 0 0] 179 (0,0)):=by
  rw[<-pi];refine(bt _ _ N (by simp;omega)).trans ((bt _ _ N (by omega)).trans ?_);rw[<-pD,<-hN];exact eA _ _ _
 have sY:R.heap[N+1]?=oa (oB #[Z U 0,Z U 0,Z U 0,Z U 0] 113 (0,0)):=by
  rw[<-pi];refine(bt _ _ (N+1) (by simp;omega)).trans ((bt _ _ (N+1) (by omega)).trans ?_);rw[<-pD,<-hN];exact gx _ _ _
 have ta:=uG pi rh;have tc:R.heap[N+3]?=oa (oB #[ot ob 0 0,ot ob 0 0] 179 (0,0)):=by rw[<-pi,show N+3=W2.heap.size+1 by omega];exact gx _ _ _
 have tA:0<T.length:=by have:=(ca.1 a1).1;omega
 have te:Rd (N+2) lb cap T 0 R:=⟨ta,λq t ht jj u hu=>by rw[rj.cell (p:=⟨lb,q*5+jj,ob⟩) (by show lb<N;omega)];exact pB q t ht jj u hu,by omega,by omega,hT⟩
 have tB:cr (zS 169 #[ot (oa ⟨lb,0,ob⟩) T.length cap] W2 (oy oc)):=pu lb cap T W2 hT tA (λq t ht jj u hu=>by rw[re.cell (p:=⟨lb,q*5+jj,ob⟩) (by show lb<N;omega)];exact pB q t ht jj u hu) he;have rk:cr (∀(j:bw)(t:Tok) W,T[j]?=oa t->Rd (N+2) lb cap T j W->zP 170 #[ox (oa ⟨N+2,0,ob⟩)] W (oA #[Z U t.kind,oe t.text,Z U t.n,Z U t.ln,Z U t.cl])):=λj t W ht h=>aP W h ht;have rl:cr (∀(j:bw) W,Rd (N+2) lb cap T j W->zS 171 #[ox (oa ⟨N+2,0,ob⟩)] W (oy od)):=λj W hW=>aO W hW;have tf:cr (∀(j:bw)(t:Tok) W,T[j]?=oa t->Rd (N+2) lb cap T j W->zP 172 #[ox (oa ⟨N+2,0,ob⟩),oe ⟨#[115,116,114,117,99,116]⟩] W (oy (bK t fU))):=λj t W ht hW=>aL fU W hW ht;have tD:cr (∀W,Rd (N+2) lb cap T 0 W->et ac 173 #[ox (oa ⟨N+2,0,ob⟩)] W (wK (N+2) lb cap T W snm l (k+2))):=λW hW=>by
  rw[<-a5];exact jQ W hW a1 a2 a3 a4 a6 a7 a8 a9 sq sr sx
 have tE:cr (∀W,Rd (N+2) lb cap T (k+2) W->et ac 174 #[ox (oa ⟨N+2,0,ob⟩)] W (wL (N+2) lb cap T W K y pl (m+1))):=λW hW=>by
  rw[<-b6];exact kK W hW b1 b3 b4 b5 b7 b8 b9 sy sB sE rc sL sR
 have tG:(t.kind==5)=od:=by rw[cL];have:=qX a2;omega
 have vy:m+1<T.length:=(ca.1 c1).1;have wa:k+2<m+1:=by
  have h1:=rc.le;obtain⟨_,_,_,h2⟩:=b3.first
  omega
 have tM:(t2.kind==5)=od:=by
  rw[cL];intro h;have:=(he _ _ b1).1 h;omega
 have wb:(t.kind != 5)=oc:=by rw[bne,tG];rfl
 have we:(t2.kind != 5)=oc:=by rw[bne,tM];rfl
 have th:=zH a1;have tP:=zH a2;have ti:=zH b1;have tR:=zH b2;have tS:=zH c1;have tU:=zH c2;have tW:=zH pD;have ua:=zH pi;have ub:=zH rj;have tj:=zH sT;have wg:=zH rh;have uc:=zH sX;have ud:=zH sY;have HN:=zH hN;have ue:cr (zx lb cap T snm l K y pl k m N R R):= .inl ⟨⟨te,Ext.refl _ _⟩,tc⟩;obtain⟨i0,ur,us,uv,ux⟩:=iu zu;obtain⟨j0,va,vc,vd,vf⟩:=iu zw;have tl:cr (lb<N):=by unfold cr;omega
 clear pB tz he a1 a2 a3 a4 a5 a6 a7 a8 a9 sq sr sx b1 b2 b3 b4 b5 b6 b7 b8 b9 sy sB sE rc sL sR c1 c2 pD pi re rj sT sX sY ta tc te;go_enter func129,ntmps129
 go_upto_region 5 with(go_at_call 169;rw[tW.out];refine tB.out.mono ?_;rintro e W2 ⟨rfl,rfl⟩)
 rw[ua.out];simp only[Nat.add_assoc,Nat.reduceAdd]
 go_loopw [14] (λ_ wr=>zx lb cap T snm l K y pl k m N R wr) (λ_ wr=>mV (N+2) T wr)
 case atStart=>exact ue.out
 case round=>
  rcases hrel with⟨⟨oR,Y⟩,hP⟩|⟨p,⟨oR,Y⟩,pL,pN,pP,pS,hP⟩|⟨p,⟨oR,Y⟩,pL,pN,pP,pS,tm,tn,hP⟩
  ·have A:=zH oR
   have HX:=zH Y;have HP:=zH hP;have rm:=zH (dE oR);clear oR Y hP;have pT:=λW=>mW t.kind t.text t.n t.ln t.cl W
   go_upto_region 7 with(first
    |(go_at_call 170;refine(rk.out (0) _ wr th.out A.out).mono ?_;rintro e w5 ⟨rfl,pj⟩;have d:=zH pj;clear pj)
    |(go_at_call 171;refine(rl.out (0) w5 (A.out.grow d.out)).mono ?_;rintro e b ⟨rfl,rfl⟩)
    |(go_at_call 172;refine(tf.out (0) _ w5 th.out (A.out.grow d.out)).mono ?_;rw[tP.out];rintro e b ⟨rfl,pZ⟩;have pm:=zH (d.out.trans (pZ.mono d.out.size));clear pZ))
   clear pT;have qe:=A.out.grow pm.out;have oS:=(pm.out.block (N+3) (aa HP.out)).trans HP.out;have rb:N+4<=b.heap.size:=aa oS;obtain⟨⟨p0,p1⟩,⟨q0,q1⟩,tp⟩:=bg oS;have rn:=zH qe;have oT:=zH oS;obtain⟨S,hS⟩:=zE ((λw'=>w'.cell? ⟨N+3,0,ob⟩=oa (ot ob 0 0)):World->Prop);have qk:∀w,S w->w.cell? ⟨N+3,0,ob⟩=oa (ot ob 0 0):=λw h=>by rw[<-hS] at h;exact h
   have pn:∀w,w.cell? ⟨N+3,0,ob⟩=oa (ot ob 0 0)->S w:=λw h=>by rw[<-hS];exact h
   have oX:=zH qk;have po:=zH pn;have vh:S b.drew:=pn _ (by first|exact p0|simpa using p0);clear hS qk pn qe oS;refine ai 7 S (by kernel_rfl) ?_;refine zT 0 rfl oX.out ?_
   try go_simp
   refine zT 1 rfl oX.out ?_
   try go_simp
   refine zT 2 rfl oX.out ?_
   try go_simp
   refine zO 3 rfl λK' a=> ?_;go_simp;go_at_call 173;refine(tD.out b.drew (rn.out.grow ((an _ _).drew))).mono ?_;rintro e w7 ⟨ao,c,fs,ln,cl,rfl,qn,qq,oY⟩;have pp:=oY.2;have pb:=pp.heap oT.out (show¬N+3=N+2 by omega);have qr:S w7:=po.out _ (rowAt pb 0 rfl).1;have vi:b.heap.size<=w7.heap.size:=oY.2.size;have pw:=aD qq (show N+4<=b.drew.heap.size from rb);refine a _ _ qr ?_;clear a
   try go_simp
   refine zO 4 rfl λK' a=> ?_;go_simp;obtain⟨G,hG⟩:=zE w7.heap.size;obtain⟨W8,pc⟩:=zE (w7.alloc (oB #[oe snm,ot ao fs.length c,Z U ln,Z U cl] 90))
   try rw[hG]
   try rw[pc]
   have g:=jJ pc;have qs:W8.heap[G]?=oa (oB #[oe snm,ot ao fs.length c,Z U ln,Z U cl] 90 (0,0)):=by rw[<-pc,<-hG];exact alloc_at _ _
   have px:=(g.block (N+3) (aa pb)).trans pb;refine a _ _ (po.out _ (rowAt px 0 rfl).1) ?_;clear a
   try go_simp
   refine zO 5 rfl λK' a=> ?_;have ro:N+4<=W8.heap.size:=by have:=g.size;omega
   refine ay (.tmp 26) (.tmp 29) 22 rfl (N+4) 90 i0 _ 4 56 underlying22 ur us uv ux rfl (by decide) (ot ob 0 0) 0 [] rfl (World.ownsRow_nil _ _ _ _) (oa ⟨G,0,ob⟩) 1 1 [oe snm,ot ao fs.length c,Z U ln,Z U cl] rfl rfl (λh=>by cases h) (λad rr jj uu hu=>by
    obtain rfl:(⟨G,0,ob⟩:Addr)=ad:=by simpa using rr
    rw[cI,cJ,ci _ _ _ _ _ _ qs];simpa using hu) (by simp[bp]) (by unfold cX;omega) (by omega) ro ?_
   intro v9 w9 pd qt rv;obtain⟨g9,c9,rx,vj,vm⟩:=dn pd;subst rx;have D:Ext (λ_=>fW) W8 w9:=Ext.of_grown qt (λq f=>by cases f);have pf:=D.heap px (λh=>h);have qu:S w9:=po.out _ (rowAt pf 0 rfl).1;obtain⟨⟨r0,r1⟩,⟨s0,s1⟩,vn⟩:=bg pf;refine a _ _ qu ?_;clear a
   try go_simp
   refine zT 6 rfl oX.out ?_
   try go_simp
   refine zK rfl λK' a=> ?_;go_simp;refine a _ _ ?_;clear a;refine⟨by kernel_rfl, ?_⟩;obtain⟨o,ph⟩:=zE (w9.setCell ⟨N+3,0,ob⟩ (ot (oa ⟨g9,0,ob⟩) 1 c9))
   try rw[ph]
   have J:Ext (·=N+3) w9 o:=by rw[<-ph];exact Ext.set1 w9 (N+3) 0 _
   have qv:Ext (·=N+2) b w9:=(((Ext.refl (·=N+2) b).drew.trans pp (λq h=> .inl h)).trans (Ext.of_below_size (M:=λ_=>fW) g) (λq h=>h.elim)).trans D (λq h=>h.elim);have qS:Ext (λq=>q=N+2\/q=N+3) b o:=(qv.mono (λq h=> .inl h)).trans J (λq h=> .inl (.inr h));have pH:Ext (λq=>q=N+2\/q=N+3) wr o:=(Ext.of_below_size (M:=λq=>q=N+2\/q=N+3) pm.out).trans qS (λq h=> .inl h);have py:Rd (N+2) lb cap T (k+2) o:=((oY.1.grow g).ext D (λh=>h) (λh=>h)).ext J (by omega) (by have:=tl.out;omega);have qT:o.heap[N+3]?=oa (oB #[ot (oa ⟨g9,0,ob⟩) 1 c9,ot ob 0 0] 179 (0,0)):=by rw[<-ph];exact aq w9 (N+3) 0 _ _ _ pf
   have ra:zx lb cap T snm l K y pl k m N R o:= .inr (.inl ⟨⟨snm,fs,ao,c,ln,cl,⟨#[]⟩,bG,[],ob,0,0,0,g9,c9,0,0⟩,⟨py,HX.out.trans pH (λq h=> .inl h)⟩,rfl,qn,
    af (af (ownsRow_below pw g) D (λq _ h=>h)) J (λq f e=>by have:=(ah pw f).1;omega),
    af pd J (λq f e=>by have:=(ah pd f).1;omega),qT⟩)
   have vp:k+2<T.length:=by omega
   have rB:=zH (dE py);have rI:=zH ra;clear ph J qv qS pH py qT ra qt rv pd pw qq qn pp oY pb px pf D g qs pc hG qr qu r0 r1 s0 s1;go_wp2;go_roundw
   case rel=>exact rI.out
   case measure=>
    rw[rB.out,rm.out];omega
  ·have A:=zH oR
   have HX:=zH Y;have HP:=zH hP;have rm:=zH (dE oR);have rK:=zH pL;have rL:=zH pN;have rN:=zH pP;have rS:=zH pS;clear oR Y hP pL pN pP pS;have pT:=λW=>mW t2.kind t2.text t2.n t2.ln t2.cl W
   go_upto_region 8 with(first
    |(go_at_call 170;refine(rk.out (k+2) _ wr ti.out A.out).mono ?_;rintro e w5 ⟨rfl,pj⟩;have d:=zH pj;clear pj)
    |(go_at_call 171;refine(rl.out (k+2) w5 (A.out.grow d.out)).mono ?_;rintro e b ⟨rfl,rfl⟩)
    |(go_at_call 172;refine(tf.out (k+2) _ w5 ti.out (A.out.grow d.out)).mono ?_;rw[tR.out];rintro e b ⟨rfl,pZ⟩;have pm:=zH (d.out.trans (pZ.mono d.out.size));clear pZ))
   clear pT;have qe:=A.out.grow pm.out;have oS:=(pm.out.block (N+3) (aa HP.out)).trans HP.out;have rb:N+4<=b.heap.size:=aa oS;obtain⟨⟨p0,p1⟩,⟨q0,q1⟩,tp⟩:=bg oS;have rn:=zH qe;have oT:=zH oS;obtain⟨S,hS⟩:=zE ((λw'=>w'.cell? ⟨N+3,1,ob⟩=oa (ot ob 0 0)):World->Prop);have qk:∀w,S w->w.cell? ⟨N+3,1,ob⟩=oa (ot ob 0 0):=λw h=>by rw[<-hS] at h;exact h
   have pn:∀w,w.cell? ⟨N+3,1,ob⟩=oa (ot ob 0 0)->S w:=λw h=>by rw[<-hS];exact h
   have oX:=zH qk;have po:=zH pn;have vh:S b.drew:=pn _ (by first|exact p1|simpa using p1);clear hS qk pn qe oS;refine ai 7 S (by kernel_rfl) ?_;refine zT 0 rfl oX.out ?_
   try go_simp
   refine zT 1 rfl oX.out ?_
   try go_simp
   refine zT 2 rfl oX.out ?_
   try go_simp
   refine zO 3 rfl λK' a=> ?_;go_simp;go_at_call 174;refine(tE.out b.drew (rn.out.grow ((an _ _).drew))).mono ?_;rintro e w7 ⟨ao,c,ss,ln,cl,rfl,qn,qq,pB,oY⟩;have pp:=oY.2;have pb:=pp.heap oT.out (show¬N+3=N+2 by omega);have qr:S w7:=po.out _ (rowAt pb 1 rfl).1;have vi:b.heap.size<=w7.heap.size:=oY.2.size;have pw:=aD qq (show N+4<=b.drew.heap.size from rb);have tr:∀s∈ss,s.inn (N+4) w7:=λs hs=>(pB s hs).mono (show N+4<=b.drew.heap.size from rb);refine a _ _ qr ?_;clear a
   try go_simp
   refine zO 4 rfl λK' a=> ?_;go_simp;obtain⟨G,hG⟩:=zE w7.heap.size;obtain⟨W8,pc⟩:=zE (w7.alloc (oB #[oe K,ot ob 0 0,oy y.1,oe y.2,ot ao ss.length c,Z U ln,Z U cl] 233))
   try rw[hG]
   try rw[pc]
   have g:=jJ pc;have qs:W8.heap[G]?=oa (oB #[oe K,ot ob 0 0,oy y.1,oe y.2,ot ao ss.length c,Z U ln,Z U cl] 233 (0,0)):=by rw[<-pc,<-hG];exact alloc_at _ _
   have px:=(g.block (N+3) (aa pb)).trans pb;refine a _ _ (po.out _ (rowAt px 1 rfl).1) ?_;clear a
   try go_simp
   refine zO 5 rfl λK' a=> ?_;have ro:N+4<=W8.heap.size:=by have:=g.size;omega
   refine ay (.tmp 33) (.tmp 36) 177 rfl (N+4) 233 j0 _ 7 104 underlying177 va vc vd vf rfl (by decide) (ot ob 0 0) 0 [] rfl (World.ownsRow_nil _ _ _ _) (oa ⟨G,0,ob⟩) 1 1 [oe K,ot ob 0 0,oy y.1,oe y.2,ot ao ss.length c,Z U ln,Z U cl] rfl rfl (λh=>by cases h) (λad rr jj uu hu=>by
    obtain rfl:(⟨G,0,ob⟩:Addr)=ad:=by simpa using rr
    rw[cI,cJ,ci _ _ _ _ _ _ qs];simpa using hu) (by simp[bp]) (by unfold cX;omega) (by omega) ro ?_
   intro v9 w9 pd qt rv;obtain⟨g9,c9,rx,vj,vm⟩:=dn pd;subst rx;have D:Ext (λ_=>fW) W8 w9:=Ext.of_grown qt (λq f=>by cases f);have pf:=D.heap px (λh=>h);have qu:S w9:=po.out _ (rowAt pf 1 rfl).1;obtain⟨⟨r0,r1⟩,⟨s0,s1⟩,vn⟩:=bg pf;refine a _ _ qu ?_;clear a
   try go_simp
   refine zT 6 rfl oX.out ?_
   try go_simp
   refine zK rfl λK' a=> ?_;go_simp;refine a _ _ ?_;clear a;refine⟨by kernel_rfl, ?_⟩;obtain⟨o,ph⟩:=zE (w9.setCell ⟨N+3,1,ob⟩ (ot (oa ⟨g9,0,ob⟩) 1 c9))
   try rw[ph]
   have J:Ext (·=N+3) w9 o:=by rw[<-ph];exact Ext.set1 w9 (N+3) 1 _
   have qv:Ext (·=N+2) b w9:=(((Ext.refl (·=N+2) b).drew.trans pp (λq h=> .inl h)).trans (Ext.of_below_size (M:=λ_=>fW) g) (λq h=>h.elim)).trans D (λq h=>h.elim);have qS:Ext (λq=>q=N+2\/q=N+3) b o:=(qv.mono (λq h=> .inl h)).trans J (λq h=> .inl (.inr h));have pH:Ext (λq=>q=N+2\/q=N+3) wr o:=(Ext.of_below_size (M:=λq=>q=N+2\/q=N+3) pm.out).trans qS (λq h=> .inl h);have py:Rd (N+2) lb cap T (m+1) o:=((oY.1.grow g).ext D (λh=>h) (λh=>h)).ext J (by omega) (by have:=tl.out;omega);have qT:o.heap[N+3]?=oa (oB #[ot (oa ⟨p.pA,0,ob⟩) 1 p.pC,ot (oa ⟨g9,0,ob⟩) 1 c9] 179 (0,0)):=by rw[<-ph];exact aq w9 (N+3) 1 _ _ _ pf
   have pk:∀{e:eJ}{size n:bw}{v:bo}{xs:bh bo},wr.ownsRow (N+4) e size v n xs->o.ownsRow (N+4) e size v n xs:=λh=>af h pH (λq f e=>by have:=(ah h f).1;omega);have ra:zx lb cap T snm l K y pl k m N R o:= .inr (.inr ⟨⟨p.snm,p.fs,p.fA,p.fC,p.sl,p.sc,K,y,ss,ao,c,ln,cl,p.pA,p.pC,g9,c9⟩,⟨py,HX.out.trans pH (λq h=> .inl h)⟩,rK.out,rL.out,rfl,rfl,qn,
    ⟨pk rN.out,pk rS.out,af (af (ownsRow_below pw g) D (λq _ h=>h)) J (λq f e=>by have:=(ah pw f).1;omega),
     λs hs=>(((tr s hs).ext (Ext.of_below_size (M:=λ_=>fW) g) (λ_ _ _ h=>h)).ext D (λ_ _ _ h=>h)).ext J (λq h1 _=>by omega),
     af pd J (λq f e=>by have:=(ah pd f).1;omega)⟩,qT⟩)
   have vp:k+2<T.length:=by omega
   clear pB tr pk;have rB:=zH (dE py);have rI:=zH ra;clear ph J qv qS pH py qT ra qt rv pd pw qq qn pp oY pb px pf D g qs pc hG qr qu r0 r1 s0 s1;go_wp2;go_roundw
   case rel=>exact rI.out
   case measure=>
    rw[rB.out,rm.out];omega
  ·have A:=zH oR
   have HX:=zH Y;have HP:=zH hP;have rK:=zH pL;have rL:=zH pN;have rN:=zH pP;have rS:=zH pS;have vq:=zH tm;have oT:=zH tn;clear oR Y hP pL pN pP pS tm tn;have pT:=λW=>mW 5 e2.text e2.n e2.ln e2.cl W;have vr:cr (∀W,bj wr.heap.size wr W->zS 171 #[ox (oa ⟨N+2,0,ob⟩)] W (oy od)):=λW hW=>rl.out (m+1) W (A.out.grow hW)
   go_upto_region 11 with(first
    |(go_at_call 170;refine(rk.out (m+1) _ wr tS.out A.out).mono ?_;rw[tU.out];rintro e w5 ⟨rfl,pj⟩;have d:=zH pj;clear pj)
    |(go_at_call 171;refine(vr.out w5 d.out).mono ?_;rintro e b ⟨rfl,rfl⟩))
   clear pT;have se:=(d.out.block (N+3) (aa HP.out)).trans HP.out;have sf:=HX.out.heap uc.out (show¬(N=N+2\/N=N+3) by omega);have sg:=HX.out.heap ud.out (show¬(N+1=N+2\/N+1=N+3) by omega);have sk:=(d.out.block N (aa sf)).trans sf;have sn:=(d.out.block (N+1) (aa sg)).trans sg;have vt:=zH sk;have vu:=zH sn;unfold Pg.cells at se;obtain⟨⟨p0,p1⟩,⟨q0,q1⟩,tp⟩:=bg se;obtain⟨⟨b0,b1⟩,⟨d0,d1⟩,wi⟩:=bg sk;obtain⟨⟨e0,e1,wj,e3⟩,⟨f0,f1,f2,f3⟩,wk⟩:=ji sn;clear se sf sg sk sn;go_wp2;(try simp only[cD,Exit.then]);have tt:∀W u0 u1,Ext (·=N) W ((W.setCell ⟨N,0,ob⟩ u0).setCell ⟨N,1,ob⟩ u1):=λW u0 u1=>ae (ae (Ext.refl _ _) _) _;have tv:∀W u0 u1 u2 u3,Ext (·=N+1) W ((((W.setCell ⟨N+1,0,ob⟩ u0).setCell ⟨N+1,1,ob⟩ u1).setCell ⟨N+1,2,ob⟩ u2).setCell ⟨N+1,3,ob⟩ u3):=λW u0 u1 u2 u3=>ae (ae (ae (ae (Ext.refl _ _) _) _) _) _;refine cP (bF rfl _ _ N (N+1) 179 113 _ _ (0,0) (0,0) _ _ rfl ((tv _ _ _ _ _).heap (aN vt.out) (show¬N=N+1 by omega)) rfl (fe ((tt _ _ _).heap vu.out (show¬N+1=N by omega))) underlying179 (by kernel_rfl) la (by kernel_rfl)) rfl ?_;have vx:Ext (λ_=>fW) wr w5:=Ext.of_below_size d.out;have so:Ext (λq=>q=N\/q=N+1) wr _:=((vx.mono (λ_ h=>h.elim)).trans (tt w5 (ot (oa ⟨p.pA,0,ob⟩) 1 p.pC) (ot (oa ⟨p.qA,0,ob⟩) 1 p.qC)) (λq h=> .inl (.inl h))).trans (tv _ (Z U 0) (Z U 0) (Z U 0) (Z U 0)) (λq h=> .inl (.inr h));have pk:∀{e:eJ}{size n:bw}{v:bo}{xs:bh bo},wr.ownsRow (N+4) e size v n xs->_:=λ{e size n v xs} h=>aD (af (e:=e) (size:=size) (n:=n) (v:=v) (xs:=xs) h so (λq f e=>by have:=(ah h f).1;omega)) (show w.heap.size<=N+4 by omega);refine⟨p,rfl,rK.out,rL.out,rN.out,rS.out,vq.out,⟨pk oT.out.fields,pk oT.out.strs,pk oT.out.stmts,λs hs=>((oT.out.exprs s hs).ext so (λq h1 _=>by omega)).mono (by omega),pk oT.out.fns⟩, ?_⟩;rw[hN];exact ub.out.trans ((HX.out.below (by rw[tj.out];omega) (λq h=>by omega)).trans (so.below (cv (by rw[tj.out];omega) HX.out.size) (λq h=>by omega)))
theorem ru {α:Type}{f:α->bh bo}{m:bw}(hf:∀x,(f x).length=m):∀(l:bh α)(k j:bw)(x:α)(u:bo),l[k]?=oa x->(f x)[j]?=oa u->(l.flatMap f)[k*m+j]?=oa u
 |[],k,_,_,_,h,_=>by simp at h
 |y::l,0,j,x,u,h,a=>by
  obtain rfl:y=x:=by simpa using h
  rw[cY,Nat.zero_mul,cJ,mp (ca.1 a).1];exact a
 |y::l,k+1,j,x,u,h,a=>by
  have ih:=ru hf l k j x u (by simpa using h) a;rw[cY,eI (by rw[hf];rw[mw];omega),hf,show(k+1)*m+j-m=k*m+j by rw[mw];omega];exact ih
theorem qf {α:Type}{f:α->bh bo}{m base n g c:bw}(hf:∀x,(f x).length=m){w:World}{e:eJ}{l:bh α}(h:w.ownsRow base e m (ot (oa ⟨g,0,ob⟩) n c) n (l.flatMap f)){k j:bw}{x:α}{u:bo}(b:l[k]?=oa x)(d:(f x)[j]?=oa u):
  w.cell? ⟨g,k*m+j,ob⟩=oa u:=by
 have a:=h.cells (g:=g) rfl (k*m+j) u (ru hf l k j x u b d);rw[cI,cJ] at a;exact a
def ym (w:World)(Q:bh lv->Prop)(b:ap)(l:bh (ap×Ty))(d:ap)(y:Ty)(e:Ending)(w':World):Prop:=∃a,Q a/\rq w b l d y a e w'
theorem ry (s:ap)(R:bh uH)(n0:bw)(Q:bh lv->Prop)(Y nm:ap)(l:bh (ap×Ty))(y:Ty)(w:World)(hs:s.size<=1000000)(pS:jN s)(h0:s.size≠0)(hR:iP s n0 (dD s s.size 0)=oa R)
  (hT:∀T:bh Tok,T.map Tok.sig=R++[(5,⟨#[]⟩,0)]->∃a,Q a/\mX T Y l nm y a):
  et ac 92 #[oe s] w (ym w Q Y l nm y):=by
 obtain⟨N,g⟩:=zE w.heap.size;obtain⟨W2,d⟩:=zE ((w.alloc (oB #[ot ob 0 0,ot ob 0 0] 179)).alloc (oB #[Z U 0,Z U 0,Z U 0,Z U 0] 113));have pj:=oL d g;have pk:W2.heap.size=N+2:=by rw[<-d];simp[g]
 have pl:=uG d g;have pm:=wy d g;have pT:=zH (qP s R n0 W2 hs pS h0 hR);have hst:∀(w:World)(c:cC bo),c.size=4->(cM ⟨w.heap.size,0,ob⟩ [Z U 0,Z U 0,Z U 0,Z U 0] 0).run ac (w.alloc (oB c 113))= .ok () (w.alloc (oB #[Z U 0,Z U 0,Z U 0,Z U 0] 113)):=λw c hc=>
  cf (P:=ac) w 113 c #[Z U 0,Z U 0,Z U 0,Z U 0] (by show _=oa 4;kernel_rfl) hc (by simp[bp])
 have pZ:=zH hst;have HT:=zH hT;have qe:=zH d;have qk:=zH pj;have o:=zH pk;have qn:=zH pl;have qq:=zH pm;have qr:cr (∀(lb cap:bw)(T:bh Tok)(a:bh lv)(W:World),rf W lb T->lb<W.heap.size->mX T Y l nm y a->et ac 129 #[ot (oa ⟨lb,0,ob⟩) T.length cap] W (rq W Y l nm y a)):=λlb cap T a W A h2 h3=>pz W A h2 h3;clear hR hT d pj pk pl pm hst;go_enter func92,ntmps92
 go_upto_region 2 with(go_at_call 128;rw[qe.out];refine pT.out.mono ?_;rintro e w3 ⟨v,T,rfl,oR,pn,po⟩;obtain⟨a,hQ,pb⟩:=HT.out T pn;obtain⟨q,G⟩:∃q,T.length=q+1:=⟨T.length-1,by obtain⟨_,_,k,j,m,t,_,_,_,_,_,_,_,_,_,_,_,a1,_⟩:=pb;have:=(ca.1 a1).1;omega⟩;obtain⟨lb,cap,hv,qs,pp⟩:=dn (by rw[G] at oR;exact oR);rw[<-G] at hv;subst hv;have qt:=zH oR;have qu:=zH pb;have HQ:=zH hQ;have pw:=zH po;have px:=zH pp;have qv:=pZ.out w3;clear oR pn po pb hQ G qs pp)
 clear qv;obtain⟨D,hD⟩:=zE w3.heap.size;obtain⟨b,oS⟩:=zE (w3.alloc (oB #[Z U 0,Z U 0,Z U 0,Z U 0] 113));rw[hD,oS];have oT:=jJ oS;have py:bj W2.heap.size W2 b:=pw.out.trans (oT.mono pw.out.size);have pB:b.heap[D]?=oa (oB #[Z U 0,Z U 0,Z U 0,Z U 0] 113 (0,0)):=by rw[<-oS,<-hD];exact alloc_at _ _
 have pD:rf b lb T:=λk t ht j u hu=>(oT.cell (p:=⟨lb,k*5+j,ob⟩) px.out).trans (qf (f:=oQ) (λ_=>rfl) qt.out ht hu);have pH:lb<b.heap.size:=cg px.out oT.size;have qS:=zH (qr.out lb cap T a b pD pH qu.out);have pc:=zH py;obtain⟨⟨c0,c1,c2,c3⟩,_,rb⟩:=ji pB;clear hD oS oT py pB pD pH
 go_wp2_with (go_at_call 129;refine qS.out.mono ?_;rintro e w5 ⟨p,rfl,A,h2,h3,h4,h5,h6,pd⟩;have J:=zH (And.intro A (And.intro h2 (And.intro h3 (And.intro h4 h5))));have K:=zH h6;have rc:=zH pd;have oX:=pc.out.trans (pd.mono pc.out.size);have pL:=zH oX;have pf:=(oX.block N (by rw[o.out];omega)).trans qn.out;have ph:=(oX.block (N+1) (by rw[o.out];omega)).trans qq.out;have qT:=zH pf;have ra:=zH ph;obtain⟨⟨b0,b1⟩,⟨d0,d1⟩,re⟩:=bg pf;obtain⟨⟨e0,e1,rh,e3⟩,⟨f0,f1,f2,f3⟩,rj⟩:=ji ph;clear A h2 h3 h4 h5 h6 pd oX pf ph;unfold Pg.cells)
 (try simp only[cD,Exit.then]);have pN:∀W u0 u1,Ext (·=N) W ((W.setCell ⟨N,0,ob⟩ u0).setCell ⟨N,1,ob⟩ u1):=λW u0 u1=>ae (ae (Ext.refl _ _) _) _;have pP:∀W u0 u1 u2 u3,Ext (·=N+1) W ((((W.setCell ⟨N+1,0,ob⟩ u0).setCell ⟨N+1,1,ob⟩ u1).setCell ⟨N+1,2,ob⟩ u2).setCell ⟨N+1,3,ob⟩ u3):=λW u0 u1 u2 u3=>ae (ae (ae (ae (Ext.refl _ _) _) _) _) _;refine cP (bF rfl _ _ N (N+1) 179 113 _ _ (0,0) (0,0) _ _ rfl ((pP _ _ _ _ _).heap (aN qT.out) (show¬N=N+1 by omega)) rfl (fe ((pN _ _ _).heap ra.out (show¬N+1=N by omega))) underlying179 (by kernel_rfl) la (by kernel_rfl)) rfl ?_;have pi:Ext (λq=>q=N\/q=N+1) w5 _:=((pN w5 (ot (oa ⟨p.pA,0,ob⟩) 1 p.pC) (ot (oa ⟨p.qA,0,ob⟩) 1 p.qC)).mono (λq h=> .inl h)).trans (pP _ (Z U 0) (Z U 0) (Z U 0) (Z U 0)) (λq h=> .inl (.inr h));have rk:N+2<=b.heap.size:=by rw[<-o.out];exact pc.out.size
 have oY:∀{e:eJ}{size n:bw}{v:bo}{xs:bh bo},w5.ownsRow b.heap.size e size v n xs->_:=λ{e size n v xs} h=>aD (af (e:=e) (size:=size) (n:=n) (v:=v) (xs:=xs) h pi (λq G e=>by have:=(ah h G).1;omega)) (show w.heap.size<=b.heap.size by omega);refine⟨a,HQ.out,p,rfl,J.out.1,J.out.2.1,J.out.2.2.1,J.out.2.2.2.1,J.out.2.2.2.2,⟨oY K.out.fields,oY K.out.strs,oY K.out.stmts,λs hs=>((K.out.exprs s hs).ext pi (λq A _=>by omega)).mono (by omega),oY K.out.fns⟩, ?_⟩;rw[g];exact qk.out.trans ((pL.out.mono (by rw[o.out];omega)).trans (pi.below (cv (by rw[o.out];omega) pL.out.size) (λq h=>by omega)))
structure fK (p:Pg)(L:bw)(w:World):Prop where
 lo:L<=w.heap.size
 pA:p.pA<L
 s:∀j u,p.stc[j]?=oa u->w.cell? ⟨p.pA,j,ob⟩=oa u
 qA:p.qA<L
 f:∀j u,p.fnc[j]?=oa u->w.cell? ⟨p.qA,j,ob⟩=oa u
 fd:aC Fd.cells 5 w L p.fA p.fs
 st:aC Sm.cells 9 w L p.bA p.ss
 ex:∀x∈p.ss,(x.es=[]/\x.E= ot ob 0 0)\/∃g cap,x.E= ot (oa ⟨g,0,ob⟩) x.es.length cap/\g<L/\∀(k:bw)(e:Ex),x.es[k]?=oa e->∀(j:bw)(u:bo),e.cells.toList[j]?=oa u->w.cell? ⟨g,k*7+j,ob⟩=oa u
 lfs:p.fs.length<=1000000
 lss:p.ss.length<=1000000
 cb:p.ss.length<=p.bC
theorem fK.ext {p:Pg}{L:bw}{w w':World}{M:bw->Prop}(h:fK p L w)(K:Ext M w w')(N:∀k,k<L->¬M k):fK p L w':=by
 have y:∀b o,b<L->w'.cell? ⟨b,o,ob⟩=w.cell? ⟨b,o,ob⟩:=λb o hb=>K.cell (a:=⟨b,o,ob⟩) (cg hb h.lo) (N b hb);refine⟨cv h.lo K.size,h.pA,λj u d=>by rw[y _ _ h.pA];exact h.s j u d,h.qA,λj u d=>by rw[y _ _ h.qA];exact h.f j u d,λD=> ?_,λD=> ?_,λx R=> ?_,h.lfs,h.lss,h.cb⟩
 ·obtain⟨b,G,v,q,A⟩:=h.fd D
  exact⟨b,G,v,q,λi x J k u d=>by rw[y _ _ q];exact A i x J k u d⟩
 ·obtain⟨b,G,v,q,A⟩:=h.st D
  exact⟨b,G,v,q,λi x J k u d=>by rw[y _ _ q];exact A i x J k u d⟩
 ·rcases h.ex x R with v|⟨g,cap,v,q,A⟩
  ·exact .inl v
  ·exact .inr ⟨g,cap,v,q,λk e Y j u d=>by rw[y _ _ q];exact A k e Y j u d⟩
theorem fK.grow {p:Pg}{L:bw}{w w':World}(h:fK p L w)(hb:bj w.heap.size w w'):fK p L w':=h.ext (Ext.of_below_size (M:=λ_=>fW) hb) (λ_ _ h=>h)
theorem bV {α:Type}{cells:α->cC bo}{m base n:bw}(d:∀x,(cells x).toList.length=m){w:World}{e:eJ}{a:dr Addr}{c:bw}{l:bh α}(h:w.ownsRow base e m (ot a n c) n (l.flatMap λx=>(cells x).toList))(D:n=l.length):aC cells m w w.heap.size a l:=by
 intro j;obtain⟨q,o⟩:∃q,n=q+1:=⟨n-1,by have:=List.length_pos_iff.2 j;omega⟩
 subst o;obtain⟨g,G,b,_,v⟩:=dn h;simp only[ez] at b;obtain⟨rfl,_,rfl⟩:=b;exact⟨g,0,rfl,v,λi x y k u A=>by rw[cJ];exact qf (f:=λx=>(cells x).toList) d h y A⟩
theorem rz {w:World}{base n m c:bw}{e:eJ}{b:dr Addr}{xs:bh bo}(h:w.ownsRow base e m (ot b n c) n xs):n<=c:=by
 rcases h.2 with⟨a,d⟩|⟨g,cap,cur,a,_,_,f,_⟩
 ·omega
 ·simp only[ez] at a
  omega
theorem wM {p:Pg}{B:bw}{w:World}(h:p.inn B w)(v:p.fs.length<=1000000)(y:p.ss.length<=1000000):fK p w.heap.size w:=by
 obtain⟨K,c1,d,_,A⟩:=dn h.strs;obtain⟨N,c2,o,_,D⟩:=dn h.fns;simp only[ez,fa,nF] at d o;obtain⟨⟨rfl,_⟩,_,rfl⟩:=d;obtain⟨⟨rfl,_⟩,_,rfl⟩:=o;refine⟨bl _,A,λj u a=> ?_,D,λj u a=> ?_,bV (cells:=Fd.cells) (m:=5) (λ_=>rfl) h.fields rfl,bV (cells:=Sm.cells) (m:=9) (λ_=>rfl) h.stmts rfl,λx G=> ?_,v,y,rz h.stmts⟩
 ·have:=h.strs.cells (g:=p.pA) rfl j u a
  rwa [cI,cJ] at this
 ·have:=h.fns.cells (g:=p.qA) rfl j u a
  rwa [cI,cJ] at this
 ·rcases h.exprs x G with b|⟨g,cap,b,R,q⟩
  ·exact .inl b
  ·refine .inr ⟨g,cap,b,aa q,λk e J j u a=> ?_⟩
   rw[ci _ _ _ _ _ _ q];have:=ru (f:=BQ) (m:=7) (λ_=>rfl) x.es k j e u J a;simpa using this
structure Ck (c:bw)(p:Pg)(L:bw)(f0 f1 f2 f3 f4 f5 f6:bo)(sA:dr Addr)(sC:bw)(S:bh Fd)(w:World):Prop where
 row:w.heap[c]?=oa (oB #[ot (oa ⟨p.pA,0,ob⟩) 1 p.pC,ot (oa ⟨p.qA,0,ob⟩) 1 p.qC,f0,f1,f2,f3,f4,f5,f6,ot sA S.length sC,Z U 0,Z U 0,Z U 0,Z U 0,Z U 0] 275 (0,0))
 pg:fK p L w
 hc:L<=c
 seen:aC Fd.cells 5 w w.heap.size sA S
 ls:S.length<=1000000
 nc:∀a,S≠[]->sA=oa a->a.block≠c
section
variable {c:bw}{p:Pg}{L:bw}{f0 f1 f2 f3 f4 f5 f6:bo}{sA:dr Addr}{sC:bw}{S:bh Fd}{w w':World}
theorem Ck.grow (h:Ck c p L f0 f1 f2 f3 f4 f5 f6 sA sC S w)(hb:bj w.heap.size w w'):Ck c p L f0 f1 f2 f3 f4 f5 f6 sA sC S w':=
 ⟨(hb.block c (aa h.row)).trans h.row,h.pg.grow hb,h.hc,aC.grow h.seen hb,h.ls,h.nc⟩
end
theorem bI {c:bw}{p:Pg}{L:bw}{f0 f1 f2 f3 f4 f5 f6:bo}{sA:dr Addr}{sC:bw}{S:bh Fd}(w:World)(h:Ck c p L f0 f1 f2 f3 f4 f5 f6 sA sC S w):
  zS 178 #[ox (oa ⟨c,0,ob⟩)] w (oy od):=by
 have c1:=(rowAt h.row 11 rfl).1;have a:=aa h.row;clear h;go_enter func178,ntmps178;go_wp2;go_ret;exact⟨rfl,rfl⟩
theorem aU {c:bw}{p:Pg}{L:bw}{f0 f1 f2 f3 f4 f5 f6:bo}{sA:dr Addr}{sC:bw}{S:bh Fd}(f a b:ct)(w:World)(h:Ck c p L f0 f1 f2 f3 f4 f5 f6 sA sC S w):
  zP 176 #[ox (oa ⟨c,0,ob⟩),oy oc,Z U f,oA #[Z U a,Z U b]] w (oy oc):=by
 obtain⟨j,d⟩:=zE (w.alloc (oB #[Z U a,Z U b] 40));have g:=jJ d;have o:=zH (bI j (h.grow g));have q:=zH d;have u:=zH g;clear h d g;go_enter func176,ntmps176
 go_wp2_with (go_at_call 178;(try rw[q.out]);refine o.out.mono ?_;rintro e j ⟨rfl,rfl⟩)
 go_ret;exact⟨rfl,u.out⟩
def jR (p:Pg)(a:ap):ct:=if p.snm==a then 0 else-1
def yn (p:Pg)(nm:ap):ct:=if p.nm==nm then 0 else-1
theorem dM {p:Pg}{L:bw}(a:ap)(w:World)(h:fK p L w):
  zP 212 #[oA p.cells,oe a] w (Z U (jR p a)):=by
 obtain⟨N,f⟩:=zE w.heap.size;unfold Pg.cells;obtain⟨v,d⟩:=zE (w.alloc (oB #[ot (oa ⟨p.pA,0,ob⟩) 1 p.pC,ot (oa ⟨p.qA,0,ob⟩) 1 p.qC] 179));have g:=gq d f;have j:v.heap[N]?=oa (oB #[ot (oa ⟨p.pA,0,ob⟩) 1 p.pC,ot (oa ⟨p.qA,0,ob⟩) 1 p.qC] 179 (0,0)):=by rw[<-d,<-f];exact alloc_at _ _
 obtain⟨⟨c0,c1⟩,_,A⟩:=bg j;have o:=h.grow (by rw[f];exact g);have D:=o.s 0 _ rfl;obtain⟨b,hb⟩:=zE (p.snm==a);have G:(p.snm.toList==a.toList)=b:=by rw[<-fR];exact hb
 have q:cr (jR p a=if b=oc then 0 else-1):=by unfold cr jR;rw[hb]
 rw[q.out];have y:=zH d;have u:=zH g;clear h d g j o hb q;go_enter func212,ntmps212;go_wp2;rw[y.out];cases b with
 |true=>
  go_loop [5] (λk=>k= Z U 0) (λ_=>0)
  case atStart=>rfl
  case round=>
   obtain rfl:=hrel;go_wp2;go_ret;exact⟨rfl,u.out⟩
 |false=>
  go_loop [5] (λk=>k= Z U 0\/k= Z U 1) (λk=>1-(intOf k).toNat)
  case atStart=>exact .inl rfl
  case round=>
   rcases hrel with rfl|rfl
   ·go_wp2
    go_round
    case rel=>exact .inr rfl
    case measure=>simp[intOf]
   ·go_wp2
    go_ret;exact⟨rfl,u.out⟩
theorem jS {p:Pg}{L:bw}(nm:ap)(w:World)(h:fK p L w):
  zP 177 #[oA p.cells,oe nm] w (Z U (yn p nm)):=by
 obtain⟨N,d⟩:=zE w.heap.size;unfold Pg.cells;obtain⟨v,a⟩:=zE (w.alloc (oB #[ot (oa ⟨p.pA,0,ob⟩) 1 p.pC,ot (oa ⟨p.qA,0,ob⟩) 1 p.qC] 179));have g:=gq a d;have j:v.heap[N]?=oa (oB #[ot (oa ⟨p.pA,0,ob⟩) 1 p.pC,ot (oa ⟨p.qA,0,ob⟩) 1 p.qC] 179 (0,0)):=by rw[<-a,<-d];exact alloc_at _ _
 obtain⟨⟨c0,c1⟩,_,A⟩:=bg j;have o:=h.grow (by rw[d];exact g);have D:=o.f 0 _ rfl;obtain⟨b,hb⟩:=zE (p.nm==nm);have G:(p.nm.toList==nm.toList)=b:=by rw[<-fR];exact hb
 have q:cr (yn p nm=if b=oc then 0 else-1):=by unfold cr yn;rw[hb]
 rw[q.out];have y:=zH a;have u:=zH g;clear h a g j o hb q;go_enter func177,ntmps177;go_wp2;rw[y.out];cases b with
 |true=>
  go_loop [5] (λk=>k= Z U 0) (λ_=>0)
  case atStart=>rfl
  case round=>
   obtain rfl:=hrel;go_wp2;go_ret;exact⟨rfl,u.out⟩
 |false=>
  go_loop [5] (λk=>k= Z U 0\/k= Z U 1) (λk=>1-(intOf k).toNat)
  case atStart=>exact .inl rfl
  case round=>
   rcases hrel with rfl|rfl
   ·go_wp2
    go_round
    case rel=>exact .inr rfl
    case measure=>simp[intOf]
   ·go_wp2
    go_ret;exact⟨rfl,u.out⟩
theorem yo (a b:iv)(s t:ap)(w:World):(js 10000 32 (oA #[oy a,oe s]) (oA #[oy b,oe t])).run ac w= .ok (((a,s):Ty)==(b,t)) w:=by
 have d:ac.underlying 32=oa (.struct (ac.fieldsOf 32)):=by kernel_rfl
 have f:ac.stoodInHeld 32=od:=by kernel_rfl
 rw[show(10000:bw)=9999+1 from rfl,run_equalIn_agg w 9999 32 _ _ d f];simp only[Program.fieldsOf,dg];have e:(((a,s):Ty)==(b,t))=(a==b&&s.toList==t.toList):=by rw[<-fR];rfl
 rw[e];go_simp
 by_cases g:a=b<;>by_cases h:s.toList=t.toList<;>simp[g,h]
theorem lw (a:iv)(s:ap)(w:World):zP 266 #[oA #[oy a,oe s],oA #[oy a,oe s]] w (oy oc):=by
 have d:∀w,(js 10000 32 (oA #[oy a,oe s]) (oA #[oy a,oe s])).run ac w= .ok oc w:=λw=>by rw[yo];simp
 have f:ac.eqGuardType ac.depth 32=od:=by kernel_rfl
 have hb:bj w.heap.size w ((w.alloc (oB #[oy a,oe s] 32)).alloc (oB #[oy a,oe s] 32)):=((an _ _).alloc (bl _) _).alloc (by simp) _;have b:=zH hb;clear hb;go_enter func266,ntmps266;go_wp2;go_ret;exact⟨rfl,b.out⟩
theorem lC {c:bw}{p:Pg}{L:bw}{f0 f1 f2 f3 f4 f5 f6:bo}{sA:dr Addr}{sC:bw}{S:bh Fd}(a:ap)(w:World)(h:Ck c p L f0 f1 f2 f3 f4 f5 f6 sA sC S w)(y:p.snm=a):
  zP 213 #[ox (oa ⟨c,0,ob⟩),oA #[oy oc,oe a]] w (oy oc):=by
 obtain⟨N,d⟩:=zE w.heap.size;obtain⟨b,f⟩:=zE (w.alloc (oB #[oy oc,oe a] 32));have o:=gq f d;have g:b.heap[N]?=oa (oB #[oy oc,oe a] 32 (0,0)):=by rw[<-f,<-d];exact alloc_at _ _
 have u:=aa g;have j:=h.grow (by rw[d];exact o);have t0:∀q:BW b,q.w.cell? ⟨N,0,ob⟩=oa (oy oc):=λq=>(rowAt ((q.h.block N u).trans g) 0 rfl).1;have t1:∀q:BW b,q.w.cell? ⟨N,1,ob⟩=oa (oe a):=λq=>(rowAt ((q.h.block N u).trans g) 1 rfl).1;have c0:∀q:BW b,q.w.cell? ⟨c,0,ob⟩=oa (ot (oa ⟨p.pA,0,ob⟩) 1 p.pC):=λq=>(rowAt (j.grow q.h).row 0 rfl).1;have c1:∀q:BW b,q.w.cell? ⟨c,1,ob⟩=oa (ot (oa ⟨p.qA,0,ob⟩) 1 p.qC):=λq=>(rowAt (j.grow q.h).row 1 rfl).1;have v:∀q:BW b,zP 212 #[oA p.cells,oe a] q.w (Z U 0):=λq=>by
  have:=dM a q.w (j.grow q.h).pg;unfold jR at this;rw[y,m8] at this;exact this
 unfold Pg.cells at v;have A:=zH v;have D:=zH f;have G:=zH o;clear h y f o g j v;go_enter func213,ntmps213
 go_upto_region 1 with(fail)
 rw[D.out];refine zQ ?_
 repeat (go_big_quiet_step ((go_at_call 212;exact bn (A.out _))))
 refine eC ?_;rintro _ ⟨q,rfl⟩;go_wp2;go_ret;exact⟨rfl,by(try rw[d]);exact G.out.trans (q.h.mono (li u))⟩
theorem sU {c:bw}{p:Pg}{L:bw}{f0 f1 f2 f3 f4 f5 f6:bo}{sA:dr Addr}{sC:bw}{S:bh Fd}(b:ap)(w:World)(_:Ck c p L f0 f1 f2 f3 f4 f5 f6 sA sC S w):
  zP 213 #[ox (oa ⟨c,0,ob⟩),oA #[oy od,oe b]] w (oy oc):=by
 obtain⟨N,d⟩:=zE w.heap.size;obtain⟨g,a⟩:=zE (w.alloc (oB #[oy od,oe b] 32));have j:=gq a d;have f:g.heap[N]?=oa (oB #[oy od,oe b] 32 (0,0)):=by rw[<-a,<-d];exact alloc_at _ _
 have o:=aa f;have t0:∀q:BW g,q.w.cell? ⟨N,0,ob⟩=oa (oy od):=λq=>(rowAt ((q.h.block N o).trans f) 0 rfl).1;have u:=zH a;have v:=zH j;clear a j f;go_enter func213,ntmps213
 go_upto_region 1 with(fail)
 rw[u.out];refine zQ ?_
 repeat (go_big_quiet_step (fail))
 refine eC ?_;rintro _ ⟨q,rfl⟩;go_wp2;go_ret;exact⟨rfl,by(try rw[d]);exact v.out.trans (q.h.mono (li o))⟩
def gN (S:bh Fd)(nm:ap):dr Fd:=S.find? λf=>f.nm==nm
def yt:dr Fd->Ty
 |some f=>f.ty
 |none=>bG
def kM (S:bh Fd)(a:ap):Ty:=yt (gN S a)
theorem gZ {c:bw}{p:Pg}{L:bw}{f0 f1 f2 f3 f4 f5 f6:bo}{sA:dr Addr}{sC:bw}{S:bh Fd}(nm:ap)(w:World)(h:Ck c p L f0 f1 f2 f3 f4 f5 f6 sA sC S w):
  zP 214 #[ox (oa ⟨c,0,ob⟩),oe nm] w (.tuple #[oA #[oy (kM S nm).1,oe (kM S nm).2],oy (gN S nm).isSome]):=by
 obtain⟨N,o⟩:=zE w.heap.size;obtain⟨W1,A⟩:=zE (w.alloc (oB #[oy od,oe ⟨#[]⟩] 32));have J:=gq A o;have K:W1.heap[N]?=oa (oB #[oy od,oe ⟨#[]⟩] 32 (0,0)):=by rw[<-A,<-o];exact alloc_at _ _
 have q:=h.grow (by rw[o];exact J);have c9:W1.cell? ⟨c,9,ob⟩=oa (ot sA S.length sC):=(rowAt q.row 9 rfl).1;have ph:=aa q.row;obtain⟨⟨t0,t1⟩,⟨q0,q1⟩,pi⟩:=bg K;have pb:=zH q.seen;have pj:=q.ls;obtain⟨R,D⟩:=zE (gN S nm);obtain⟨Y,hY⟩:=zE (kM S nm);have oT:yt R=Y:=by rw[<-hY,<-D];rfl
 rw[D,hY];have G:=zH D;have u:=zH oT;have pc:=zH A;have oX:=zH J;have oY:=zH K;clear h A J K q D hY oT;go_enter func214,ntmps214;go_wp2;rw[pc.out]
 go_loop [6] (λk=>∃j:bw,k= Z U (j:ct)/\j<=S.length/\gN (S.drop j) nm=R) (λk=>S.length-(intOf k).toNat)
 case atStart=>exact⟨0,rfl,da _,G.out⟩
 case round=>
  obtain⟨j,rfl,hj,a⟩:=hrel
  by_cases g:j<S.length
  ·have pk:(j:ct)<(S.length:ct):=by omega
   obtain⟨x,f⟩:∃x,S[j]?=oa x:=⟨_,ce g⟩
   have oR:S.drop j=x::S.drop (j+1):=by
    rw[ep g];have:S[j]=x:=by rw[ce g] at f;exact cN f
    rw[this]
   rw[oR] at a;unfold gN at a;obtain⟨b,pl,hA,pm,v⟩:=pb.out (by intro e;rw[e] at g;simp at g);have k0:=v j x f 0 _ rfl;have k1:=v j x f 1 _ rfl;have k2:=v j x f 2 _ rfl;rw[ix] at k0;rw[hA] at c9;obtain⟨d,y⟩:=zE (x.nm==nm);have pn:(x.nm.toList==nm.toList)=d:=by rw[<-fR];exact y
   cases d with
   |true=>
    rw[List.find?_cons_of_pos (by exact y)] at a;subst a;have oS:cr (x.ty=Y):=u.out;clear G u f oR v hA y;go_wp2;(try simp only[cD,Exit.then]);refine cP (aB rfl _ _ N 32 _ (0,0) _ rfl (aN oY.out) dg (by kernel_rfl)) rfl ?_;rw[<-oS.out];(try rw[o]);exact⟨rfl,(oX.out.setCell (by show N<=N;omega) _).setCell (by show N<=N;omega) _⟩
   |false=>
    rw[List.find?_cons_of_neg (by rw[y];simp)] at a;have HZ:cr (∃j':bw,dv .i64 ((j:ct)+1)= Z U (j':ct)/\j'<=S.length/\gN (S.drop j') nm=R):=⟨j+1,by simp,g,a⟩
    clear G u f oR v hA y a;go_wp2
    go_round
    case rel=>exact HZ.out
    case measure=>simp[intOf];omega
  ·have pd:j=S.length:=by omega
   subst pd;rw[m9] at a;unfold gN at a;have pf:(ob:dr Fd)=R:=a;subst pf;have oS:cr (bG=Y):=u.out;clear G u a;go_wp2;(try simp only[cD,Exit.then]);refine cP (aB rfl _ _ N 32 _ (0,0) _ rfl (aN oY.out) dg (by kernel_rfl)) rfl ?_;rw[<-oS.out];(try rw[o]);exact⟨rfl,(oX.out.setCell (by show N<=N;omega) _).setCell (by show N<=N;omega) _⟩
theorem uW {c:bw}{p:Pg}{L:bw}{f0 f1 f2 f3 f4 f5 f6:bo}{sA:dr Addr}{sC:bw}{S:bh Fd}(n:ct)(j:ap)(o q:ct)(w:World)(h:Ck c p L f0 f1 f2 f3 f4 f5 f6 sA sC S w):
  zP 265 #[ox (oa ⟨c,0,ob⟩),oA #[Z U 1,Z U n,oe j,oe ⟨#[]⟩,ot ob 0 0,Z U o,Z U q]] w (oA #[oy od,oe ⟨#[]⟩]):=by
 obtain⟨N,b⟩:=zE w.heap.size;obtain⟨a,f⟩:=zE ((w.alloc (oB #[Z U 1,Z U n,oe j,oe ⟨#[]⟩,ot ob 0 0,Z U o,Z U q] 313)).alloc (oB #[oy od,oe ⟨#[]⟩] 32));obtain⟨g,d⟩:=zE (a.alloc (oB #[oy od,oe ⟨#[]⟩] 32));have u:=oL f b;have v:a.heap.size=N+2:=by rw[<-f];simp[b]
 have y:bj N w g:=by rw[<-d];exact u.alloc (by omega) _
 have A:g.heap.size=N+3:=by rw[<-d];simp[v]
 have D:g.heap[N]?=oa (oB #[Z U 1,Z U n,oe j,oe ⟨#[]⟩,ot ob 0 0,Z U o,Z U q] 313 (0,0)):=by
  rw[<-d];refine(bt _ _ N (by omega)).trans ?_;rw[<-f,<-b];exact eA _ _ _
 have G:g.heap[N+1]?=oa (oB #[oy od,oe ⟨#[]⟩] 32 (0,0)):=by
  rw[<-d];refine(bt _ _ (N+1) (by omega)).trans ?_;rw[<-f,<-b];exact gx _ _ _
 have J:g.heap[N+2]?=oa (oB #[oy od,oe ⟨#[]⟩] 32 (0,0)):=by rw[<-d,<-v];exact alloc_at _ _
 have K:=h.grow (by rw[b];exact u);have Y:=h.grow (by rw[b];exact y);have oR:=zH (bI a K);have hst:∀(c:cC bo),c.size=2->(cM ⟨a.heap.size,0,ob⟩ [oy od,oe ⟨#[]⟩] 0).run ac (a.alloc (oB c 32))= .ok () (a.alloc (oB #[oy od,oe ⟨#[]⟩] 32)):=λc hc=>
  cf (P:=ac) a 32 c #[oy od,oe ⟨#[]⟩] (by show _=oa 2;kernel_rfl) hc (by simp[bp])
 have oS:=zH hst;have oT:=zH f;have oX:=zH d;have oY:=zH y;have pf:=zH A;have pb:=zH D;have R:=zH G;have pc:=zH J;clear h f d u y A D G J K Y hst;go_enter func265,ntmps265
 go_upto_region 3 with(go_at_call 178;rw[oT.out];refine oR.out.mono ?_;rintro e a ⟨rfl,rfl⟩)
 have pd:=oS.out
 go_upto_region 4 with(fail)
 rw[oX.out];(try simp only[v]);clear pd;obtain⟨⟨a0,a1,a2,a3,a4,a5,a6⟩,_,ph⟩:=bR pb.out;obtain⟨⟨b0,b1⟩,⟨d0,d1⟩,pi⟩:=bg R.out;obtain⟨⟨e0,e1⟩,_,pj⟩:=bg pc.out;go_wp2;(try simp only[cD,Exit.then]);refine cP (cV (P:=ac) rfl _ _ (N+1) 32 _ (0,0) _ rfl (aN R.out) dg rfl (by kernel_rfl)) rfl ?_;(try rw[b]);exact⟨rfl,(oY.out.setCell (by show N<=N+1;omega) _).setCell (by show N<=N+1;omega) _⟩
theorem uX {c:bw}{p:Pg}{L:bw}{f0 f1 f2 f3 f4 f5 f6:bo}{sA:dr Addr}{sC:bw}{S:bh Fd}(n:ct)(j:ap)(q u:ct)(w:World)(h:Ck c p L f0 f1 f2 f3 f4 f5 f6 sA sC S w){a:Fd}(hl:gN S j=oa a):
  zP 265 #[ox (oa ⟨c,0,ob⟩),oA #[Z U 2,Z U n,oe j,oe ⟨#[]⟩,ot ob 0 0,Z U q,Z U u]] w (oA #[oy a.ty.1,oe a.ty.2]):=by
 obtain⟨N,f⟩:=zE w.heap.size;obtain⟨d,o⟩:=zE ((w.alloc (oB #[Z U 2,Z U n,oe j,oe ⟨#[]⟩,ot ob 0 0,Z U q,Z U u] 313)).alloc (oB #[oy od,oe ⟨#[]⟩] 32));obtain⟨b,g⟩:=zE (d.alloc (oB #[oy od,oe ⟨#[]⟩] 32));have A:=oL o f;have D:d.heap.size=N+2:=by rw[<-o];simp[f]
 have J:bj N w b:=by rw[<-g];exact A.alloc (by omega) _
 have oX:b.heap.size=N+3:=by rw[<-g];simp[D]
 have oY:b.heap[N]?=oa (oB #[Z U 2,Z U n,oe j,oe ⟨#[]⟩,ot ob 0 0,Z U q,Z U u] 313 (0,0)):=by
  rw[<-g];refine(bt _ _ N (by omega)).trans ?_;rw[<-o,<-f];exact eA _ _ _
 have pb:b.heap[N+1]?=oa (oB #[oy od,oe ⟨#[]⟩] 32 (0,0)):=by
  rw[<-g];refine(bt _ _ (N+1) (by omega)).trans ?_;rw[<-o,<-f];exact gx _ _ _
 have pc:b.heap[N+2]?=oa (oB #[oy od,oe ⟨#[]⟩] 32 (0,0)):=by rw[<-g,<-D];exact alloc_at _ _
 have h2:=h.grow (by rw[f];exact A);have K:=h.grow (by rw[f];exact J);have pn:=zH (bI d h2);have hst:∀(c:cC bo),c.size=2->(cM ⟨d.heap.size,0,ob⟩ [oy od,oe ⟨#[]⟩] 0).run ac (d.alloc (oB c 32))= .ok () (d.alloc (oB #[oy od,oe ⟨#[]⟩] 32)):=λc R=>
  cf (P:=ac) d 32 c #[oy od,oe ⟨#[]⟩] (by show _=oa 2;kernel_rfl) R (by simp[bp])
 have po:=zH hst;have pp:=zH o;have pw:=zH g;have px:=zH J;have py:=zH oX;have pd:=zH oY;have pf:=zH pb;have pB:=zH pc;have pD:cr (∀W,bj b.heap.size b W->zP 176 #[ox (oa ⟨c,0,ob⟩),oy oc,Z U 5,oA #[Z U q,Z U u]] W (oy oc)):=λW hW=>aU 5 q u W (K.grow hW);have pH:cr (zP 214 #[ox (oa ⟨c,0,ob⟩),oe j] b (.tuple #[oA #[oy a.ty.1,oe a.ty.2],oy oc])):=by
  have:=gZ j b K;unfold kM at this;rw[hl] at this;exact this
 have ph:∀(w:World)(c:cC bo),c.size=2->(cM ⟨w.heap.size,0,ob⟩ [oy a.ty.1,oe a.ty.2] 0).run ac (w.alloc (oB c 32))= .ok () (w.alloc (oB #[oy a.ty.1,oe a.ty.2] 32)):=λw c R=>
  cf (P:=ac) w 32 c #[oy a.ty.1,oe a.ty.2] (by show _=oa 2;kernel_rfl) R (by simp[bp])
 have pL:=zH ph;clear h o g A J oX oY pb pc h2 K hst hl ph;go_enter func265,ntmps265
 go_upto_region 3 with(go_at_call 178;rw[pp.out];refine pn.out.mono ?_;rintro e d ⟨rfl,rfl⟩)
 have pN:=po.out
 go_upto_region 4 with(fail)
 rw[pw.out];(try simp only[D]);clear pN;obtain⟨⟨a0,a1,a2,a3,a4,a5,a6⟩,_,pP⟩:=bR pd.out;obtain⟨⟨b0,b1⟩,⟨d0,d1⟩,pS⟩:=bg pf.out;obtain⟨⟨e0,e1⟩,_,qt⟩:=bg pB.out
 go_upto_region 7 with(go_at_call 214;refine pH.out.mono ?_;rintro e Y ⟨rfl,pi⟩;have pT:=zH pi;have pZ:=pL.out Y;clear pi)
 clear pZ;obtain⟨G,hG⟩:=zE Y.heap.size;obtain⟨W5,v⟩:=zE (Y.alloc (oB #[oy a.ty.1,oe a.ty.2] 32));rw[hG,v];have y:=zD v pT;have oR:W5.heap[G]?=oa (oB #[oy a.ty.1,oe a.ty.2] 32 (0,0)):=by rw[<-v,<-hG];exact alloc_at _ _
 have pj:=(y.block N pP).trans pd.out;have pk:=zH y;have qe:=zH oR;have qk:=zH (pD.out W5 y);obtain⟨⟨x0,x1,x2,x3,x4,x5,x6⟩,_,_⟩:=bR pj;have qn:=aa oR;clear hG v y oR pj
 go_upto_region 8 with(go_at_call 176;refine qk.out.mono ?_;rintro e w6 ⟨rfl,oS⟩;have pl:=zH (pk.out.trans (oS.mono pk.out.size));have qq:=zH oS;clear oS)
 have pm:=(qq.out.block G qn).trans qe.out;have oT:=(pl.out.block (N+1) pS).trans pf.out;have qr:=zH oT;obtain⟨⟨y0,y1⟩,_,_⟩:=bg pm;obtain⟨⟨b0,b1⟩,⟨d0,d1⟩,qu⟩:=bg oT;have qs:cr (bj N w w6):=px.out.trans (pl.out.mono (by rw[py.out];omega));clear pm oT;go_wp2;(try simp only[cD,Exit.then]);refine cP (cV (P:=ac) rfl _ _ (N+1) 32 _ (0,0) _ rfl (aN qr.out) dg rfl (by kernel_rfl)) rfl ?_;(try rw[f]);exact⟨rfl,(qs.out.setCell (by show N<=N+1;omega) _).setCell (by show N<=N+1;omega) _⟩
theorem uY {c:bw}{p:Pg}{L:bw}{f0 f1 f2 f3 f4 f5 f6:bo}{sA:dr Addr}{sC:bw}{S:bh Fd}(n:ct)(b:ap)(j o:ct)(w:World)(h:Ck c p L f0 f1 f2 f3 f4 f5 f6 sA sC S w)(Y:p.snm=b):
  zP 265 #[ox (oa ⟨c,0,ob⟩),oA #[Z U 7,Z U n,oe b,oe ⟨#[]⟩,ot ob 0 0,Z U j,Z U o]] w (oA #[oy oc,oe b]):=by
 obtain⟨N,f⟩:=zE w.heap.size;obtain⟨d,u⟩:=zE ((w.alloc (oB #[Z U 7,Z U n,oe b,oe ⟨#[]⟩,ot ob 0 0,Z U j,Z U o] 313)).alloc (oB #[oy od,oe ⟨#[]⟩] 32));obtain⟨a,g⟩:=zE (d.alloc (oB #[oy od,oe ⟨#[]⟩] 32));have A:=oL u f;have D:d.heap.size=N+2:=by rw[<-u];simp[f]
 have G:bj N w a:=by rw[<-g];exact A.alloc (by omega) _
 have oR:a.heap.size=N+3:=by rw[<-g];simp[D]
 have oS:a.heap[N]?=oa (oB #[Z U 7,Z U n,oe b,oe ⟨#[]⟩,ot ob 0 0,Z U j,Z U o] 313 (0,0)):=by
  rw[<-g];refine(bt _ _ N (by omega)).trans ?_;rw[<-u,<-f];exact eA _ _ _
 have oT:a.heap[N+1]?=oa (oB #[oy od,oe ⟨#[]⟩] 32 (0,0)):=by
  rw[<-g];refine(bt _ _ (N+1) (by omega)).trans ?_;rw[<-u,<-f];exact gx _ _ _
 have oX:a.heap[N+2]?=oa (oB #[oy od,oe ⟨#[]⟩] 32 (0,0)):=by rw[<-g,<-D];exact alloc_at _ _
 have h2:=h.grow (by rw[f];exact A);have v:=h.grow (by rw[f];exact G);have pb:=zH (bI d h2);have hst:∀(c:cC bo),c.size=2->(cM ⟨d.heap.size,0,ob⟩ [oy od,oe ⟨#[]⟩] 0).run ac (d.alloc (oB c 32))= .ok () (d.alloc (oB #[oy od,oe ⟨#[]⟩] 32)):=λc hc=>
  cf (P:=ac) d 32 c #[oy od,oe ⟨#[]⟩] (by show _=oa 2;kernel_rfl) hc (by simp[bp])
 have pc:=zH hst;have pd:=zH u;have pf:=zH g;have ph:=zH G;have pi:=zH oR;have y:=zH oS;have oY:=zH oT;have pj:=zH oX;have pk:cr (∀q:BW a,zP 176 #[ox (oa ⟨c,0,ob⟩),oy oc,Z U 5,oA #[Z U j,Z U o]] q.w (oy oc)):=λq=>aU 5 j o q.w (v.grow q.h);have J:∀q:BW a,zP 212 #[oA p.cells,oe b] q.w (Z U 0):=λq=>by
  have:=dM b q.w (v.grow q.h).pg;unfold jR at this;rw[Y,m8] at this;exact this
 unfold Pg.cells at J;have pl:=zH J;have c0:∀q:BW a,q.w.cell? ⟨c,0,ob⟩=oa (ot (oa ⟨p.pA,0,ob⟩) 1 p.pC):=λq=>(rowAt (v.grow q.h).row 0 rfl).1;have c1:∀q:BW a,q.w.cell? ⟨c,1,ob⟩=oa (ot (oa ⟨p.qA,0,ob⟩) 1 p.qC):=λq=>(rowAt (v.grow q.h).row 1 rfl).1;have C0:=zH c0;have C1:=zH c1;clear h u g A G oR oS oT oX h2 v hst Y J c0 c1;go_enter func265,ntmps265
 go_upto_region 3 with(go_at_call 178;rw[pd.out];refine pb.out.mono ?_;rintro e d ⟨rfl,rfl⟩)
 have pm:=pc.out
 go_upto_region 4 with(fail)
 rw[pf.out];(try simp only[D]);clear pm;obtain⟨⟨a0,a1,a2,a3,a4,a5,a6⟩,_,K⟩:=bR y.out;obtain⟨⟨b0,b1⟩,⟨d0,d1⟩,pn⟩:=bg oY.out;obtain⟨⟨e0,e1⟩,_,pw⟩:=bg pj.out
 go_upto_region 26 with(fail)
 clear a0 a1 a2 a3 a4 a5 a6 b0 b1 d0 d1 e0 e1;have c0:=C0.out;have c1:=C1.out;have x2:∀q:BW a,q.w.cell? ⟨N,2,ob⟩=oa (oe b):=λq=>(rowAt ((q.h.block N K).trans y.out) 2 rfl).1;have x5:∀q:BW a,q.w.cell? ⟨N,5,ob⟩=oa (Z U j):=λq=>(rowAt ((q.h.block N K).trans y.out) 5 rfl).1;have x6:∀q:BW a,q.w.cell? ⟨N,6,ob⟩=oa (Z U o):=λq=>(rowAt ((q.h.block N K).trans y.out) 6 rfl).1;refine zQ ?_
 repeat (go_big_quiet_step (first
  |(go_at_call 212;exact bn (pl.out _))
  |(go_at_call 176;exact bn (pk.out _))))
 refine eC ?_;rintro _ ⟨q,rfl⟩;have z2:=x2 q;have R:=(q.h.block (N+1) pn).trans oY.out;have po:=zH R;obtain⟨⟨b0,b1⟩,⟨d0,d1⟩,px⟩:=bg R;have pp:cr (bj N w q.w):=ph.out.trans (q.h.mono (by rw[pi.out];omega));clear c0 c1 x2 x5 x6 R;go_wp2;(try simp only[cD,Exit.then]);refine cP (cV (P:=ac) rfl _ _ (N+1) 32 _ (0,0) _ rfl (aN po.out) dg rfl (by kernel_rfl)) rfl ?_;(try rw[f]);exact⟨rfl,(pp.out.setCell (by show N<=N+1;omega) _).setCell (by show N<=N+1;omega) _⟩
def Sm.plainK (s:Sm):Prop:=s.kind=1\/s.kind=3\/s.kind=8\/s.kind=9
def ek (s:Sm):iv:=s.kind==8
theorem rA (s:Sm)(u:s.plainK)(b:dr Addr)(n d:bw)(f:s.E= ot b n d)(w:World):
  zP 245 #[oA s.cells] w (oy (ek s)):=by
 obtain⟨v,a⟩:=zE (w.alloc (oB #[Z U s.kind,oy s.ty.1,oe s.ty.2,oe s.nm,ot b n d,ot ob 0 0,ot ob 0 0,Z U s.ln,Z U s.cl] 282));have g:=jJ a;have j:v.heap[w.heap.size]?=oa (oB #[Z U s.kind,oy s.ty.1,oe s.ty.2,oe s.nm,ot b n d,ot ob 0 0,ot ob 0 0,Z U s.ln,Z U s.cl] 282 (0,0)):=by rw[<-a];exact alloc_at _ _
 obtain⟨⟨c0,c1,c2,c3,c4,A,D,G,J⟩,_,K⟩:=dA j;unfold Sm.cells;rw[f];have o:=zH a;have y:=zH g;clear a g j f;rcases u with h|h|h|h<;>(
  have q:cr (ek s=(s.kind==8)):=rfl;rw[q.out];rw[h] at c0 o⊢;clear h q;go_enter func245,ntmps245
  go_upto_region 1 with(fail)
  rw[o.out];go_wp2;go_ret;exact⟨rfl,y.out⟩)
theorem jq (b y cap:bw)(l:bh Sm)(hl:l.length<=1000000)(Y:∀s∈l,s.plainK/\∃K n N,s.E= ot K n N)(w:World)(hb:l≠[]->b<w.heap.size)(hc:∀(i:bw)(x:Sm),l[i]?=oa x->∀(k:bw)(u:bo),x.cells.toList[k]?=oa u->w.cell? ⟨b,y+i*9+k,ob⟩=oa u):
  zP 216 #[ot (oa ⟨b,y,ob⟩) l.length cap] w (oy (l.any ek)):=by
 have HK:=zH Y;have HB:=zH hb;have HC:=zH hc;clear Y hb hc;go_enter func216,ntmps216;go_wp2
 go_loopw [3] (λk wr=>∃j:bw,k= Z U (j:ct)/\j<=l.length/\(l.take j).any ek=od/\bj w.heap.size w wr) (λk _=>l.length-(intOf k).toNat)
 case atStart=>exact⟨0,rfl,da _,rfl,an _ _⟩
 case round=>
  obtain⟨j,rfl,hj,d,A⟩:=hrel;have HZ:=zH d;have f:=zH A
  by_cases D:j<l.length
  ·have pf:(j:ct)<(l.length:ct):=by omega
   obtain⟨x,g⟩:∃x,l[j]?=oa x:=⟨_,ce D⟩
   have oY:=HB.out (by intro e;rw[e] at D;simp at D);obtain⟨oR,K,n,N,G⟩:=HK.out x (cA g);have a:∀(k:bw)(u:bo),x.cells.toList[k]?=oa u->wr.cell? ⟨b,y+j*9+k,ob⟩=oa u:=λk u hu=>(A.cell (p:=⟨b,y+j*9+k,ob⟩) oY).trans (HC.out j x g k u hu);have k0:=a 0 _ rfl;have k1:=a 1 _ rfl;have k2:=a 2 _ rfl;have k3:=a 3 _ rfl;have k4:=a 4 _ rfl;have k5:=a 5 _ rfl;have k6:=a 6 _ rfl;have k7:=a 7 _ rfl;have k8:=a 8 _ rfl;rw[ix] at k0;rw[G] at k4;have o:=rA x oR K n N G wr;obtain⟨q,J⟩:=zE (ek x);rw[J] at o;unfold Sm.cells at o;rw[G] at o;have oS:=zH o;have oT:(l.take (j+1)).any ek=q:=by rw[xY l ek g,d,J];simp
   have pb:=zH oT;have oX:q=oc->l.any ek=oc:=λh=>by rw[ie];exact⟨x,cA g,by rw[J];exact h⟩
   have pc:=zH oX;clear d A g G o J a oT oX oR;cases q with
   |true=>
    go_wp2_with (go_at_call 245;refine oS.out.mono ?_;rintro e w2 ⟨rfl,v⟩;have R:=zH (f.out.trans (v.mono f.out.size));clear v)
    go_ret;rw[pc.out (by first|rfl|trivial)];exact⟨rfl,R.out⟩
   |false=>
    go_wp2_with (go_at_call 245;refine oS.out.mono ?_;rintro e w2 ⟨rfl,v⟩;have R:=zH (f.out.trans (v.mono f.out.size));clear v)
    go_roundw
    case rel=>exact⟨j+1,by go_num,D,pb.out,R.out⟩
    case measure=>simp[intOf];omega
  ·have pd:j=l.length:=by omega
   subst pd;rw[dl] at d;have HE:cr (l.any ek=od):=d;clear d A;go_wp2;go_ret;rw[HE.out];exact⟨rfl,f.out⟩
def yu (p:Pg)(S:bh Fd)(e:Ex)(y:Ty):Prop:=
 (e.kind=1/\y=bG)\/(e.kind=2/\∃a,gN S e.nm=oa a/\a.ty=y)\/(e.kind=7/\p.snm=e.nm/\y=(oc,e.nm))
theorem jT {c:bw}{p:Pg}{L:bw}{f0 f1 f2 f3 f4 f5 f6:bo}{sA:dr Addr}{sC:bw}{S:bh Fd}{e:Ex}{y:Ty}(w:World)(h:Ck c p L f0 f1 f2 f3 f4 f5 f6 sA sC S w)(d:yu p S e y):
  et ac 265 #[ox (oa ⟨c,0,ob⟩),oA e.cells] w λf w'=>f= oE (oA #[oy y.1,oe y.2])/\bj w.heap.size w w':=by
 unfold Ex.cells;rcases d with⟨a,rfl⟩|⟨a,g,b,rfl⟩|⟨a,b,rfl⟩
 ·rw[a];exact uW e.n e.nm e.ln e.cl w h
 ·rw[a];exact uX e.n e.nm e.ln e.cl w h b
 ·rw[a];exact uY e.n e.nm e.ln e.cl w h b
def xk (w:World)(g:bw)(e:Ex):Prop:=g<w.heap.size/\∀(j:bw)(u:bo),e.cells.toList[j]?=oa u->w.cell? ⟨g,j,ob⟩=oa u
theorem xk.grow {w w':World}{g:bw}{e:Ex}(h:xk w g e)(hb:bj w.heap.size w w'):xk w' g e:=⟨cg h.1 hb.size,λj u a=>by rw[hb.cell (p:=⟨g,j,ob⟩) h.1];exact h.2 j u a⟩
theorem sV {c:bw}{p:Pg}{L:bw}{f0 f1 f4 f5 f6:bo}{y:Ty}{sA:dr Addr}{sC:bw}{S:bh Fd}{e:Ex}{g j:bw}(J:iv)(ts K:ap)(ln cl:ct)(w:World)(h:Ck c p L f0 f1 (oy y.1) (oe y.2) f4 f5 f6 sA sC S w)(hy:yu p S e y)(hg:xk w g e):
  et ac 268 #[ox (oa ⟨c,0,ob⟩),oA #[Z U 8,oy J,oe ts,oe K,ot (oa ⟨g,0,ob⟩) 1 j,ot ob 0 0,ot ob 0 0,Z U ln,Z U cl]] w λen w'=>en= oE (.tuple #[])/\bj w.heap.size w w':=by
 obtain⟨N,d⟩:=zE w.heap.size;obtain⟨W1,o⟩:=zE (w.alloc (oB #[Z U 8,oy J,oe ts,oe K,ot (oa ⟨g,0,ob⟩) 1 j,ot ob 0 0,ot ob 0 0,Z U ln,Z U cl] 282));have u:=gq o d;have v:W1.heap[N]?=oa (oB #[Z U 8,oy J,oe ts,oe K,ot (oa ⟨g,0,ob⟩) 1 j,ot ob 0 0,ot ob 0 0,Z U ln,Z U cl] 282 (0,0)):=by rw[<-o,<-d];exact alloc_at _ _
 have oT:=aa v;have R:=h.grow (by rw[d];exact u);have a:=hg.grow (by rw[d];exact u);have Y:=jT W1 R hy;unfold Ex.cells at Y;have pc:=zH Y;have e0:=a.2 0 _ rfl;have e1:=a.2 1 _ rfl;have e2:=a.2 2 _ rfl;have e3:=a.2 3 _ rfl;have e4:=a.2 4 _ rfl;have e5:=a.2 5 _ rfl;have e6:=a.2 6 _ rfl;obtain⟨⟨a0,a1,a2,a3,a4,a5,a6,a7,a8⟩,_,pn⟩:=dA v;have hst:∀(w:World)(c:cC bo),c.size=2->(cM ⟨w.heap.size,0,ob⟩ [oy y.1,oe y.2] 0).run ac (w.alloc (oB c 32))= .ok () (w.alloc (oB #[oy y.1,oe y.2] 32)):=λw c hc=>
  cf (P:=ac) w 32 c #[oy y.1,oe y.2] (by show _=oa 2;kernel_rfl) hc (by simp[bp])
 have pd:=zH hst;have H1:=zH R;have pf:=zH a;have ph:=zH o;have pi:=zH u;have pj:=zH v;have po:=a.1;clear h hy hg o u v R a Y hst;go_enter func268,ntmps268
 go_upto_region 1 with(fail)
 rw[ph.out]
 go_upto_region 7 with(go_at_call 265;refine pc.out.mono ?_;rintro en w2 ⟨rfl,oX⟩;have pk:=zH oX;have pl:=pd.out w2;clear oX)
 clear pl;obtain⟨T,hT⟩:=zE w2.heap.size;obtain⟨b,A⟩:=zE (w2.alloc (oB #[oy y.1,oe y.2] 32));rw[hT,A];have f:=zD A pk;have D:b.heap[T]?=oa (oB #[oy y.1,oe y.2] 32 (0,0)):=by rw[<-A,<-hT];exact alloc_at _ _
 have oY:=aa D;have G:=H1.out.grow f;have oR:=pf.out.grow f;have oS:=(f.block N oT).trans pj.out;have t0:∀q:BW b,q.w.cell? ⟨T,0,ob⟩=oa (oy y.1):=λq=>(rowAt ((q.h.block T oY).trans D) 0 rfl).1;have t1:∀q:BW b,q.w.cell? ⟨T,1,ob⟩=oa (oe y.2):=λq=>(rowAt ((q.h.block T oY).trans D) 1 rfl).1;have c4:∀q:BW b,q.w.cell? ⟨c,4,ob⟩=oa (oy y.1):=λq=>(rowAt (G.grow q.h).row 4 rfl).1;have c5:∀q:BW b,q.w.cell? ⟨c,5,ob⟩=oa (oe y.2):=λq=>(rowAt (G.grow q.h).row 5 rfl).1;have x4:∀q:BW b,q.w.cell? ⟨N,4,ob⟩=oa (ot (oa ⟨g,0,ob⟩) 1 j):=λq=>(rowAt ((q.h.block N (aa oS)).trans oS) 4 rfl).1;have g5:∀q:BW b,q.w.cell? ⟨g,5,ob⟩=oa (Z U e.ln):=λq=>(oR.grow q.h).2 5 _ rfl;have g6:∀q:BW b,q.w.cell? ⟨g,6,ob⟩=oa (Z U e.cl):=λq=>(oR.grow q.h).2 6 _ rfl;have pm:cr (∀q:BW b,zP 176 #[ox (oa ⟨c,0,ob⟩),oy oc,Z U 7,oA #[Z U e.ln,Z U e.cl]] q.w (oy oc)):=λq=>aU 7 e.ln e.cl q.w (G.grow q.h);have pb:=zH f;clear hT A f D G oR oS a0 a1 a2 a3 a4 a5 a6 a7 a8 e0 e1 e2 e3 e4 e5 e6;refine zQ ?_
 repeat (go_big_quiet_step (first
  |(go_at_call 266;exact bn (lw _ _ _))
  |(go_at_call 176;exact bn (pm.out _))))
 refine eC ?_;rintro _ ⟨q,rfl⟩;clear t0 t1 c4 c5 x4 g5 g6;go_wp2
 go_end0
 exact⟨rfl,by(try rw[d]);exact pi.out.trans ((pb.out.trans (q.h.mono pb.out.size)).mono (li oT))⟩
theorem rC {c:bw}{p:Pg}{L:bw}{f0 f1 f2 f3 f4 f5 f6:bo}{sA:dr Addr}{sC:bw}{S:bh Fd}{a:Fd}(D:iv)(ts d:ap)(G:dr Addr)(b J:bw)(g j:ct)(w:World)(h:Ck c p L f0 f1 f2 f3 f4 f5 f6 sA sC S w)(hl:gN S d=oa a)(hp:a.ty.1=oc):
  et ac 268 #[ox (oa ⟨c,0,ob⟩),oA #[Z U 9,oy D,oe ts,oe d,ot G b J,ot ob 0 0,ot ob 0 0,Z U g,Z U j]] w λb w'=>b= oE (.tuple #[])/\bj w.heap.size w w':=by
 obtain⟨N,q⟩:=zE w.heap.size;obtain⟨o,u⟩:=zE (w.alloc (oB #[Z U 9,oy D,oe ts,oe d,ot G b J,ot ob 0 0,ot ob 0 0,Z U g,Z U j] 282));have K:=gq u q;have v:o.heap[N]?=oa (oB #[Z U 9,oy D,oe ts,oe d,ot G b J,ot ob 0 0,ot ob 0 0,Z U g,Z U j] 282 (0,0)):=by rw[<-u,<-q];exact alloc_at _ _
 have oY:=aa v;have R:=h.grow (by rw[q];exact K);obtain⟨⟨a0,a1,a2,a3,a4,a5,a6,a7,a8⟩,_,pL⟩:=dA v;have pi:cr (zP 214 #[ox (oa ⟨c,0,ob⟩),oe d] o (.tuple #[oA #[oy oc,oe a.ty.2],oy oc])):=by
  have:=gZ d o R;unfold kM at this;rw[hl] at this;rw[show yt (oa a)=a.ty from rfl,hp] at this;exact this
 have pb:cr (∀f W,bj o.heap.size o W->zP 176 #[ox (oa ⟨c,0,ob⟩),oy oc,Z U f,oA #[Z U g,Z U j]] W (oy oc)):=λf W hW=>aU f g j W (R.grow hW);have hst:∀(w:World)(c:cC bo),c.size=2->(cM ⟨w.heap.size,0,ob⟩ [oy oc,oe a.ty.2] 0).run ac (w.alloc (oB c 32))= .ok () (w.alloc (oB #[oy oc,oe a.ty.2] 32)):=λw c hc=>
  cf (P:=ac) w 32 c #[oy oc,oe a.ty.2] (by show _=oa 2;kernel_rfl) hc (by simp[bp])
 have pj:=zH hst;have pk:=zH u;have pl:=zH K;have pm:=zH v;clear h hl hp u K v R hst;go_enter func268,ntmps268
 go_upto_region 1 with(fail)
 rw[pk.out]
 go_upto_region 10 with(go_at_call 214;refine pi.out.mono ?_;rintro b w2 ⟨rfl,pc⟩;have pn:=zH pc;have po:=pj.out w2;clear pc)
 clear po;obtain⟨T,Y⟩:=zE w2.heap.size;obtain⟨W3,y⟩:=zE (w2.alloc (oB #[oy oc,oe a.ty.2] 32));rw[Y,y];have A:=zD y pn;have oR:W3.heap[T]?=oa (oB #[oy oc,oe a.ty.2] 32 (0,0)):=by rw[<-y,<-Y];exact alloc_at _ _
 have pp:=aa oR;have oS:=(A.block N oY).trans pm.out;obtain⟨⟨a0,a1,a2,a3,a4,a5,a6,a7,a8⟩,_,pw⟩:=dA oS;have pd:=zH A;have px:=zH oR;have py:=zH oS;have pB:=zH (pb.out 5 W3 A);clear Y y A oR oS
 go_upto_region 11 with(go_at_call 176;refine pB.out.mono ?_;rintro b w4 ⟨rfl,oT⟩;have oX:=zH (pd.out.trans (oT.mono pd.out.size));have pf:=zH oT;clear oT)
 obtain⟨⟨a0,a1,a2,a3,a4,a5,a6,a7,a8⟩,_,pN⟩:=dA ((pf.out.block N pw).trans py.out);obtain⟨⟨t0,t1⟩,_,pP⟩:=bg ((pf.out.block T pp).trans px.out);have pD:=zH (pb.out 7 w4 oX.out)
 go_wp2_with (go_at_call 176;refine pD.out.mono ?_;rintro b w5 ⟨rfl,ph⟩;have pH:=zH (oX.out.trans (ph.mono oX.out.size));clear ph)
 go_end0
 exact⟨rfl,by(try rw[q]);exact pl.out.trans (pH.out.mono (li oY))⟩
end Go.Proofs.YtjomgckjhcfbgaaGreat
