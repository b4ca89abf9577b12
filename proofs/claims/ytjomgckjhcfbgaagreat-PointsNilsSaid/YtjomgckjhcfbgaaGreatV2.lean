/- Walks. -/
import Derived.Test.YtjomgckjhcfbgaaGreatV1
set_option maxRecDepth 100000
set_option maxHeartbeats 64000000
set_option linter.all false
namespace Go.Proofs.YtjomgckjhcfbgaaGreat
open Go.RowKit
open Go.Proofs.Tryz renaming prog→ac,underlying263→eK,underlying313→eV,underlying88→fc,underlying3→gt,underlying282→ir,underlying90→kB,underlying40→nl
open Go.RowKit.Below renaming refl→an,heap_alloc→bt,heap_setCell→cH
open _root_ renaming ByteArray→ap,List→bh,Nat→bw,Int→ct,Array→cC,Option→dr,False→fW,beq_iff_eq→nr
open Go renaming heap_setCell_same→aq,Value→bo,run_storeCells_new→cf,cell_of_row→ci,storeCells→cM,bodyPost_ret→cP,results_cell_row→cV,maxLen→cX,run_underlying→dT,Calls→et,TypeId→eJ,info_parts→iu
open Go.RowKit renaming Below→bj,Hid→cr,ownsRow_setCell_below→gr
open _root_.Nat renaming le_refl→bl,le_trans→cv,le_of_lt→li
open Go.Value renaming oneCell'→bp,string→dj,ownBlock→eL,string→oe,slice→ot,pointer→ox,bool→oy,agg→oA,int→Z
open _root_.List renaming getElem?_eq_some_iff→ca,length_append→cm,mem_append→cw,flatMap_append→dk,append_assoc→ef,map_append→em,any_eq_true→ie
open Go.Exit renaming inBlock→cD
open _root_.Option.some renaming injEq→fa
open Go.Sem renaming run_bind→fi
open _root_.Bool renaming and_eq_true→fk,true→oc,false→od
open _root_.Option renaming map_eq_some_iff→fS,some→oa,none→ob
open Go.Instr renaming field→jp
open Go.ByteArray renaming toList_eq→ld
open Go.Obj renaming cells→oB
open Go.Ending renaming returned→oE
open Go.IntKind renaming i64→U
open Tryz
def opsOf (q:bw):bh ap:=match q with
 |0=>[⟨#[42]⟩,⟨#[47]⟩,⟨#[37]⟩]
 |1=>[⟨#[43]⟩,⟨#[45]⟩]
 |_=>[⟨#[61,61]⟩,⟨#[33,61]⟩,⟨#[60]⟩,⟨#[60,61]⟩,⟨#[62]⟩,⟨#[62,61]⟩]
def sO:cC bo:=#[oe ⟨#[42]⟩,oe ⟨#[47]⟩,oe ⟨#[37]⟩]
def wH:cC bo:=#[oe ⟨#[43]⟩,oe ⟨#[45]⟩]
def yj:cC bo:=#[oe ⟨#[61,61]⟩,oe ⟨#[33,61]⟩,oe ⟨#[60]⟩,oe ⟨#[60,61]⟩,oe ⟨#[62]⟩,oe ⟨#[62,61]⟩]
def kJ (w:World)(N:bw):World:=
 ((((w.alloc (oB #[Z U 0,Z U 0,oe ⟨#[]⟩,oe ⟨#[]⟩,ot ob 0 0,Z U 0,Z U 0] 313)).alloc (oB #[oe ⟨#[42]⟩,oe ⟨#[47]⟩,oe ⟨#[37]⟩] 9)).alloc (oB #[oe ⟨#[43]⟩,oe ⟨#[45]⟩] 9)).alloc
  (oB #[oe ⟨#[61,61]⟩,oe ⟨#[33,61]⟩,oe ⟨#[60]⟩,oe ⟨#[60,61]⟩,oe ⟨#[62]⟩,oe ⟨#[62,61]⟩] 9)).alloc (oB #[ot (oa ⟨N+1,0,ob⟩) 3 3,ot (oa ⟨N+2,0,ob⟩) 2 2,ot (oa ⟨N+3,0,ob⟩) 6 6] 223)
structure qV (w W:World)(N:bw):Prop where
 low:bj N w W
 size:W.heap.size=N+5
 res:W.heap[N]?=oa (oB #[Z U 0,Z U 0,oe ⟨#[]⟩,oe ⟨#[]⟩,ot ob 0 0,Z U 0,Z U 0] 313 (0,0))
 r0:W.heap[N+1]?=oa (oB sO 9 (0,0))
 r1:W.heap[N+2]?=oa (oB wH 9 (0,0))
 r2:W.heap[N+3]?=oa (oB yj 9 (0,0))
 out:W.heap[N+4]?=oa (oB #[ot (oa ⟨N+1,0,ob⟩) 3 3,ot (oa ⟨N+2,0,ob⟩) 2 2,ot (oa ⟨N+3,0,ob⟩) 6 6] 223 (0,0))
theorem mR (w:World)(N:bw)(a:w.heap.size=N):qV w (kJ w N) N:=by
 unfold kJ;refine⟨(((((an N w).alloc (by omega) _).alloc (by simp<;>omega) _).alloc (by simp<;>omega) _).alloc (by simp<;>omega) _).alloc (by simp<;>omega) _,by simp[a], ?_, ?_, ?_, ?_, ?_⟩
 ·refine(bt _ _ N (by simp;omega)).trans ((bt _ _ N (by simp;omega)).trans ((bt _ _ N (by simp;omega)).trans ((bt _ _ N (by simp;omega)).trans ?_)))
  rw[<-a];exact alloc_at _ _
 ·refine(bt _ _ (N+1) (by simp;omega)).trans ((bt _ _ (N+1) (by simp;omega)).trans ((bt _ _ (N+1) (by simp;omega)).trans ?_))
  have:=alloc_at (w.alloc (oB #[Z U 0,Z U 0,oe ⟨#[]⟩,oe ⟨#[]⟩,ot ob 0 0,Z U 0,Z U 0] 313)) (oB sO 9);rw[World.size_alloc,a] at this;exact this
 ·refine(bt _ _ (N+2) (by simp;omega)).trans ((bt _ _ (N+2) (by simp;omega)).trans ?_)
  have:=alloc_at ((w.alloc (oB #[Z U 0,Z U 0,oe ⟨#[]⟩,oe ⟨#[]⟩,ot ob 0 0,Z U 0,Z U 0] 313)).alloc (oB sO 9)) (oB wH 9);rw[World.size_alloc,World.size_alloc,a] at this;exact this
 ·refine(bt _ _ (N+3) (by simp;omega)).trans ?_
  have:=alloc_at (((w.alloc (oB #[Z U 0,Z U 0,oe ⟨#[]⟩,oe ⟨#[]⟩,ot ob 0 0,Z U 0,Z U 0] 313)).alloc (oB sO 9)).alloc (oB wH 9)) (oB yj 9);rw[World.size_alloc,World.size_alloc,World.size_alloc,a] at this;exact this
 ·have:=alloc_at ((((w.alloc (oB #[Z U 0,Z U 0,oe ⟨#[]⟩,oe ⟨#[]⟩,ot ob 0 0,Z U 0,Z U 0] 313)).alloc (oB sO 9)).alloc (oB wH 9)).alloc (oB yj 9)) (oB #[ot (oa ⟨N+1,0,ob⟩) 3 3,ot (oa ⟨N+2,0,ob⟩) 2 2,ot (oa ⟨N+3,0,ob⟩) 6 6] 223)
  rw[World.size_alloc,World.size_alloc,World.size_alloc,World.size_alloc,a] at this;exact this
theorem uS {r lb cap:bw}{T:bh Tok}{i k:bw}{e:Ex}{z:Tok}(d:ct)(w:World)(h:Rd r lb cap T i w)(q:di T i e k)(u:T[k]?=oa z)(v:bK z bL=oc):
  et ac 272 #[ox (oa ⟨r,0,ob⟩),Z U (-1),Z U d] w λJ w'=>J= oE (oA e.cells)/\aR r lb cap T k w w':=by
 obtain⟨N,a⟩:=zE w.heap.size;have b:=mR w N a;obtain⟨y,f⟩:=zE (kJ w N);rw[f] at b;unfold kJ at f;have A:=h.grow (show bj w.heap.size w y by rw[a];exact b.low);have g:=o7 d y A q u v;unfold Ex.cells at g⊢;have K:=zH g;have oT:r<N:=by rw[<-a];exact h.rlt
 have R:cr (lb<N):=by unfold cr;rw[<-a];exact h.lt
 have Y:=zH f;have D:=zH b;clear h q u v f b A g;go_enter func272,ntmps272
 go_upto_region 2 with(fail)
 rw[Y.out]
 go_wp2_with (go_at_call 276;refine K.out.mono ?_;rintro e w3 ⟨rfl,j⟩;have o:=j.2.heap D.out.res (by omega);have oR:=zH j;have oS:=zH o;obtain⟨⟨p0,p1,p2,p3,p4,p5,p6⟩,⟨o0,o1,o2,o3,o4,o5,o6⟩,oX⟩:=bR o;clear j o)
 (try simp only[cD,Exit.then]);refine cP (cV (P:=ac) rfl _ _ N 313 _ (0,0) _ rfl (dI oS.out) eV rfl (by kernel_rfl)) rfl ?_;have G:aR r lb cap T k w w3:=aR.grown (by rw[a];exact D.out.low) oR.out;exact⟨rfl,G.1.ext (bi _ _ _ _ _ _ _ _ _) (by omega) (by have:=R.out;omega),G.2.trans (bi _ _ _ _ _ _ _ _ _) (λk hk=> .inr (by omega))⟩
theorem eU {W:World}{b:bw}{l:bh ap}{a:cC bo}{t:eJ}(h:W.heap[b]?=oa (oB a t (0,0)))(d:a=(l.map dj).toArray):kH W b l:=λk x f=>by
 rw[ci _ _ _ _ _ _ h,d];simp[f]
theorem xe {w W:World}{N:bw}(h:qV w W N):∀(q:bw),q<3->kH W (N+1+q) (opsOf q)
 |0,_=>eU h.r0 rfl
 |1,_=>eU h.r1 rfl
 |2,_=>eU h.r2 rfl
theorem xg {w W:World}{N:bw}(h:qV w W N):∀(q:bw),q<3->W.cell? ⟨N+4,q,ob⟩=oa (ot (oa ⟨N+1+q,0,ob⟩) (opsOf q).length (opsOf q).length)
 |0,_=>by rw[ci _ _ _ _ _ _ h.out];rfl
 |1,_=>by rw[ci _ _ _ _ _ _ h.out];rfl
 |2,_=>by rw[ci _ _ _ _ _ _ h.out];rfl
theorem AL {z:Tok}(a:bK z bL=oc):∀(q:bw),q<3->jk z (opsOf q)=od
 |0,_=>jc a (by decide)
 |1,_=>jc a (by decide)
 |2,_=>jc a (by decide)
theorem zq:∀(q:bw),q<3->(opsOf q).length<=20
 |0,_=>by decide
 |1,_=>by decide
 |2,_=>by decide
theorem kH.ext {W W':World}{b:bw}{l:bh ap}{M:bw->Prop}(h:kH W b l)(d:Ext M W W')(hb:b<W.heap.size)(f:¬M b):kH W' b l:=λk x g=>by
 rw[d.cell (a:=⟨b,k,ob⟩) hb f];exact h k x g
theorem qW {r lb cap:bw}{T:bh Tok}{i k:bw}{e:Ex}{z:Tok}(q:bw)(u:q<3)(d:ct)(w:World)(h:Rd r lb cap T i w)(hl:di T i e k)(hz:T[k]?=oa z)(hs:bK z bL=oc)
  (oT:∀W,Rd r lb cap T i W->et ac 272 #[ox (oa ⟨r,0,ob⟩),Z U ((q:ct)-1),Z U d] W λD w'=>D= oE (oA e.cells)/\aR r lb cap T k W w'):
  et ac 272 #[ox (oa ⟨r,0,ob⟩),Z U (q:ct),Z U d] w λD w'=>D= oE (oA e.cells)/\aR r lb cap T k w w':=by
 obtain⟨N,o⟩:=zE w.heap.size;have b:=mR w N o;obtain⟨j,v⟩:=zE (kJ w N);rw[v] at b;unfold kJ at v;have h1:=h.grow (show bj w.heap.size w j by rw[o];exact b.low);have J:=oT j h1;have K:∀W,Rd r lb cap T k W->Ext (·=r) j W->zP 260 #[ox (oa ⟨r,0,ob⟩),ot (oa ⟨N+1+q,0,ob⟩) (opsOf q).length (opsOf q).length] W (oy od):=by
  intro W hW y;have pT:=y.size;have po:=h.rlt;have pp:=b.size;have pw:=(xe b q u).ext y (by omega) (by omega);have:=d9 (N+1+q) (opsOf q).length (opsOf q) W hW hz (zq q u) (by omega) pw
  rwa [AL hs q u] at this
 have R:∀W,Ext (·=r) j W->W.cell? ⟨N+4,q,ob⟩=oa (ot (oa ⟨N+1+q,0,ob⟩) (opsOf q).length (opsOf q).length):=by
  intro W y;have po:=h.rlt;have pp:=b.size;rw[y.cell (a:=⟨N+4,q,ob⟩) (by show N+4<_;omega) (by show¬N+4=r;omega)];exact xg b q u
 obtain⟨OL,oX⟩:=zE ((opsOf q).length);rw[oX] at K R;unfold Ex.cells at J⊢;have px:=zH J;have oY:=zH K;have pb:=zH R;have hst:∀(w:World)(c:cC bo),c.size=7->(cM ⟨w.heap.size,0,ob⟩ [Z U e.kind,Z U e.n,oe e.nm,oe ⟨#[]⟩,ot ob 0 0,Z U e.ln,Z U e.cl] 0).run ac (w.alloc (oB c 313))= .ok () (w.alloc (oB #[Z U e.kind,Z U e.n,oe e.nm,oe ⟨#[]⟩,ot ob 0 0,Z U e.ln,Z U e.cl] 313)):=λw c hc=>
  cf (P:=ac) w 313 c #[Z U e.kind,Z U e.n,oe e.nm,oe ⟨#[]⟩,ot ob 0 0,Z U e.ln,Z U e.cl] (by show _=oa 7;kernel_rfl) hc (by simp[bp])
 have py:=zH hst;have pZ:r<N:=by rw[<-o];exact h.rlt
 have pB:cr (lb<N):=by unfold cr;rw[<-o];exact h.lt
 have pD:=zH v;have Y:=zH b;have qe:(q:ct)<3:=by omega
 clear h hl hz hs v b h1 J K R hst oT oX;go_enter func272,ntmps272
 go_upto_region 2 with(fail)
 rw[pD.out]
 go_upto_region 5 with(go_at_call 272;refine px.out.mono ?_;rintro e w3 ⟨rfl,pc⟩;have pH:=zH pc;have pL:=py.out w3;clear pc)
 clear pL;obtain⟨G,hG⟩:=zE w3.heap.size;obtain⟨f,A⟩:=zE (w3.alloc (oB #[Z U e.kind,Z U e.n,oe e.nm,oe ⟨#[]⟩,ot ob 0 0,Z U e.ln,Z U e.cl] 313));rw[hG,A];have pd:=jJ A;have pf:bj w.heap.size w j:=by rw[o];exact Y.out.low
 have g:aR r lb cap T k j f:=pH.out.grow pd;have ph:aR r lb cap T k w f:=aR.grown pf g;have pi:f.heap[G]?=oa (oB #[Z U e.kind,Z U e.n,oe e.nm,oe ⟨#[]⟩,ot ob 0 0,Z U e.ln,Z U e.cl] 313 (0,0)):=by rw[<-A,<-hG];exact alloc_at _ _
 have pj:=g.2.heap Y.out.res (by omega);have pN:=zH (oY.out f g.1 g.2);have qk:=pb.out f g.2;have pP:=zH ph;have pk:=zH pi;have pl:=zH pj;have qn:N+4<f.heap.size:=aa (g.2.heap Y.out.out (by omega));clear hG A pd pf g ph pi pj oY pb
 go_loopw [9] (λ_ wr=>wr=f) (λ_ _=>0)
 case atStart=>rfl
 case round=>
  obtain rfl:=hrel
  go_upto_region 11 with(go_at_call 260;refine pN.out.mono ?_;rintro e w5 ⟨rfl,pm⟩;have oR:=zH pm;clear pm)
  have pn:=(oR.out.block G (aa pk.out)).trans pk.out;have oS:=(oR.out.block N (aa pl.out)).trans pl.out;have pS:=zH oS;obtain⟨⟨g0,g1,g2,g3,g4,g5,g6⟩,_,qq⟩:=bR pn;obtain⟨⟨p0,p1,p2,p3,p4,p5,p6⟩,⟨o0,o1,o2,o3,o4,o5,o6⟩,qr⟩:=bR oS;clear pn oS;go_wp2;(try simp only[cD,Exit.then]);refine cP (cV (P:=ac) rfl _ _ N 313 _ (0,0) _ rfl (dI pS.out) eV rfl (by kernel_rfl)) rfl ?_;have hM:aR r lb cap T k w w5:=pP.out.grow oR.out;exact⟨rfl,hM.1.ext (bi _ _ _ _ _ _ _ _ _) (by omega) (by have:=pB.out;omega),hM.2.trans (bi _ _ _ _ _ _ _ _ _) (λk hk=> .inr (by omega))⟩
theorem jm {r lb cap:bw}{T:bh Tok}{i k:bw}{e:Ex}{z:Tok}(d:ct)(a:di T i e k)(b:T[k]?=oa z)(f:bK z bL=oc):
  ∀(q:bw)(_:q<=3) (w:World) (_:Rd r lb cap T i w),et ac 272 #[ox (oa ⟨r,0,ob⟩),Z U ((q:ct)-1),Z U d] w λg w'=>g= oE (oA e.cells)/\aR r lb cap T k w w'
 |0,_,w,h=>uS d w h a b f
 |q+1,o,w,h=>by
  have:=qW q (by omega) d w h a b f (λW j=>jm d a b f q (by omega) W j);rw[show((q+1:bw):ct)-1=(q:ct) by omega];exact this
theorem jO {r lb cap:bw}{T:bh Tok}{i k:bw}{e:Ex}{z:Tok}(d:ct)(w:World)(h:Rd r lb cap T i w)(q:di T i e k)(u:T[k]?=oa z)(v:bK z bL=oc):
  et ac 263 #[ox (oa ⟨r,0,ob⟩),Z U d] w λJ w'=>J= oE (oA e.cells)/\aR r lb cap T k w w':=by
 obtain⟨N,a⟩:=zE w.heap.size;obtain⟨y,b⟩:=zE (w.alloc (oB #[Z U 0,Z U 0,oe ⟨#[]⟩,oe ⟨#[]⟩,ot ob 0 0,Z U 0,Z U 0] 313));have g:=gq b a;have A:y.heap[N]?=oa (oB #[Z U 0,Z U 0,oe ⟨#[]⟩,oe ⟨#[]⟩,ot ob 0 0,Z U 0,Z U 0] 313 (0,0)):=by rw[<-b,<-a];exact alloc_at _ _
 have D:=h.grow (by rw[a];exact g);have f:=jm d q u v 3 (bl _) y D;rw[show((3:bw):ct)-1=2 from rfl] at f;unfold Ex.cells at f⊢;have K:=zH f;have oY:r<N:=by rw[<-a];exact h.rlt
 have R:cr (lb<N):=by unfold cr;rw[<-a];exact h.lt
 have Y:=zH b;have oR:=zH g;have oS:=zH A;clear h q u v b g A D f;go_enter func263,ntmps263
 go_wp2_with (go_at_call 272;rw[Y.out];refine K.out.mono ?_;rintro e w3 ⟨rfl,j⟩;have o:=j.2.heap oS.out (by omega);have oT:=zH j;have oX:=zH o;obtain⟨⟨p0,p1,p2,p3,p4,p5,p6⟩,⟨o0,o1,o2,o3,o4,o5,o6⟩,pb⟩:=bR o;clear j o)
 (try simp only[cD,Exit.then]);refine cP (cV (P:=ac) rfl _ _ N 313 _ (0,0) _ rfl (dI oX.out) eV rfl (by kernel_rfl)) rfl ?_;have G:aR r lb cap T k w w3:=aR.grown (by rw[a];exact oR.out) oT.out;exact⟨rfl,G.1.ext (bi _ _ _ _ _ _ _ _ _) (by omega) (by have:=R.out;omega),G.2.trans (bi _ _ _ _ _ _ _ _ _) (λk hk=> .inr (by omega))⟩
structure Sm where
 kind:ct
 ty:Ty
 nm:ap
 E:bo
 ln:ct
 cl:ct
 es:bh Ex
def Sm.cells (s:Sm):cC bo:=#[Z U s.kind,oy s.ty.1,oe s.ty.2,oe s.nm,s.E,ot ob 0 0,ot ob 0 0,Z U s.ln,Z U s.cl]
def BQ (e:Ex):bh bo:=e.cells.toList
def Sm.inn (B:bw)(w:World)(s:Sm):Prop:=
 (s.es=[]/\s.E= ot ob 0 0)\/∃g cap,s.E= ot (oa ⟨g,0,ob⟩) s.es.length cap/\B<=g/\w.heap[g]?=oa (oB (s.es.flatMap BQ).toArray 313 (0,0))
theorem Sm.inn.ext {B:bw}{w w':World}{s:Sm}{M:bw->Prop}(h:s.inn B w)(d:Ext M w w')(f:∀k,B<=k->k<w.heap.size->¬M k):s.inn B w':=by
 rcases h with h|⟨g,cap,j,a,b⟩
 ·exact .inl h
 ·exact .inr ⟨g,cap,j,a,d.heap b (f g a (aa b))⟩
theorem Sm.inn.mono {B a:bw}{w:World}{s:Sm}(h:s.inn B w)(b:a<=B):s.inn a w:=by
 rcases h with h|⟨g,cap,d,f,j⟩
 ·exact .inl h
 ·exact .inr ⟨g,cap,d,cv b f,j⟩
structure lv where
 kind:ct
 ty:Ty
 nm:ap
 es:bh Ex
def Sm.shp (s:Sm):lv:=⟨s.kind,s.ty,s.nm,s.es⟩
def mF:ap:=⟨#[114,101,116,117,114,110]⟩
def wI:ap:=⟨#[102,114,101,101]⟩
def jP:ap:=⟨#[41]⟩
def Bh:ap:=⟨#[61]⟩
def eG (r lb cap:bw)(T:bh Tok)(w:World)(a:lv)(k:bw)(e:Ending)(w':World):Prop:=
 ∃s:Sm,e= oE (oA s.cells)/\s.shp=a/\s.inn w.heap.size w'/\aR r lb cap T k w w'
theorem mU (l:bh UInt8):(⟨l.toArray⟩:ap).toList=l:=by rw[ld]
theorem qX {t:Tok}{s:ap}(h:bK t s=oc):t.text=s/\(t.kind=2\/t.kind=4):=by
 unfold bK at h;rw[fk,Bool.or_eq_true] at h;exact⟨eq_of_beq h.2,by rcases h.1 with h|h;exact .inl (eq_of_beq h);exact .inr (eq_of_beq h)⟩
theorem qY {r lb cap:bw}{T:bh Tok}{i k:bw}{t z:Tok}{e:Ex}(ln cl d:ct)(w:World)(h:Rd r lb cap T i w)(ht:T[i]?=oa t)(u:bK t mF=oc)(hl:di T (i+1) e k)(hz:T[k]?=oa z)(hs:bK z bL=oc):
  et ac 261 #[ox (oa ⟨r,0,ob⟩),oA #[Z U 0,oy od,oe ⟨#[]⟩,oe ⟨#[]⟩,ot ob 0 0,ot ob 0 0,ot ob 0 0,Z U ln,Z U cl],Z U d] w (eG r lb cap T w ⟨8,bG,⟨#[]⟩,[e]⟩ (k+1)):=by
 obtain⟨N,f⟩:=zE w.heap.size;obtain⟨W1,j⟩:=zE ((w.alloc (oB #[Z U 0,oy od,oe ⟨#[]⟩,oe ⟨#[]⟩,ot ob 0 0,ot ob 0 0,ot ob 0 0,Z U ln,Z U cl] 282)).alloc (oB #[Z U 0,oy od,oe ⟨#[]⟩,oe ⟨#[]⟩,ot ob 0 0,ot ob 0 0,ot ob 0 0,Z U 0,Z U 0] 282));have oT:=oL j f;have pl:W1.heap.size=N+2:=by rw[<-j];simp[f]
 have pm:=uG j f;have pn:=wy j f;have h1:=h.grow (by rw[f];exact oT);have po:=zH (aP W1 h1 ht);have oX:∀W,Rd r lb cap T (i+1) W->et ac 263 #[ox (oa ⟨r,0,ob⟩),Z U d] W λen w'=>en= oE (oA e.cells)/\aR r lb cap T k W w':=λW hW=>jO d W hW hl hz hs;unfold Ex.cells at oX;have qr:=zH oX;have pp:cr (∀W,Rd r lb cap T k W->et ac 207 #[ox (oa ⟨r,0,ob⟩),oe bL] W λe w'=>e= oE (.tuple #[])/\aR r lb cap T (k+1) W w'):=λW hW=>aH bL W hW hz hs;unfold bL at pp;obtain⟨oY,_⟩:=qX u;obtain⟨b,o⟩:=zE t.text;have hst:∀(w:World)(c:cC bo),c.size=5->(cM ⟨w.heap.size,0,ob⟩ [Z U t.kind,oe b,Z U t.n,Z U t.ln,Z U t.cl] 0).run ac (w.alloc (oB c 263))= .ok () (w.alloc (oB #[Z U t.kind,oe b,Z U t.n,Z U t.ln,Z U t.cl] 263)):=λw c hc=>
  cf (P:=ac) w 263 c #[Z U t.kind,oe b,Z U t.n,Z U t.ln,Z U t.cl] (by show _=oa 5;kernel_rfl) hc (by simp[bp])
 have qs:=zH hst;simp only[Tok.cells,o] at po;rw[o] at oY;have q:b.toList=[114,101,116,117,114,110]:=by rw[oY];exact mU [114,101,116,117,114,110]
 have x1:(b.toList==[105,102])=od:=by rw[q];rfl
 have x2:(b.toList==[119,104,105,108,101])=od:=by rw[q];rfl
 have x3:(b.toList==[98,114,101,97,107])=od:=by rw[q];rfl
 have x4:(b.toList==[99,111,110,116,105,110,117,101])=od:=by rw[q];rfl
 have x5:(b.toList==[114,101,116,117,114,110])=oc:=by rw[q];rfl
 have rv:i<T.length:=(ca.1 ht).1;have hT:=h.short;have rx:r<N:=by rw[<-f];exact h.rlt
 have pb:cr (lb<N):=by unfold cr;rw[<-f];exact h.lt
 have qt:=zH j;have qu:=zH oT;have K:=zH pl;have qv:=zH pm;have qS:=zH pn;have H1:=zH h1;clear h ht u hl hz hs j oT pl pm pn h1 oX oY o hst q;go_enter func261,ntmps261
 go_upto_region 2 with(go_at_call 170;rw[qt.out];refine po.out.mono ?_;rintro e w2 ⟨rfl,pw⟩;have qT:=qs.out w2;have px:=zH pw;clear pw)
 clear qT;obtain⟨G,R⟩:=zE w2.heap.size;obtain⟨g,Y⟩:=zE (w2.alloc (oB #[Z U t.kind,oe b,Z U t.n,Z U t.ln,Z U t.cl] 263));rw[R,Y];have v:=zD Y px;have rB:N+2<=G:=by rw[<-R,<-K.out];exact px.out.size
 have py:g.heap[G]?=oa (oB #[Z U t.kind,oe b,Z U t.n,Z U t.ln,Z U t.cl] 263 (0,0)):=by rw[<-Y,<-R];exact alloc_at _ _
 obtain⟨⟨g0,g1,g2,g3,g4⟩,_,rI⟩:=dm py;have pc:=(v.block N (by have:=K.out;omega)).trans qv.out;have pB:=(v.block (N+1) (by have:=K.out;omega)).trans qS.out;obtain⟨⟨a0,a1,a2,a3,a4,a5,a6,a7,a8⟩,⟨b0,b1,b2,b3,b4,b5,b6,b7,b8⟩,ra⟩:=dA pc;have h3:=H1.out.grow v;obtain⟨c0,c1,c3,f1,hr⟩:=h3.cells;have rb:=zH v;have rc:=zH pc;have re:=zH pB;have H3:=zH h3;clear R Y v py pc pB h3
 go_upto_region 23 with(fail)
 obtain⟨y,A⟩:=zE ((g.setCell ⟨r,1,ob⟩ (Z U ((i:ct)+1))).setCell ⟨N,0,ob⟩ (Z U 8));rw[A];have pD:aR r lb cap T (i+1) w y:=by
  have a:aR r lb cap T (i+1) g (g.setCell ⟨r,1,ob⟩ (Z U ((i:ct)+1))):=⟨H3.out.step,Ext.set1 g r 1 _⟩
  have o:Ext (·=N) (g.setCell ⟨r,1,ob⟩ (Z U ((i:ct)+1))) y:=by rw[<-A];exact ae (Ext.refl _ _) _
  have rh:bj w.heap.size w g:=by rw[f];exact qu.out.trans (rb.out.mono (by rw[K.out];omega))
  exact⟨a.1.ext o (by omega) (by have:=pb.out;omega),(aR.grown rh a).2.trans o (λk u=> .inr (by omega))⟩
 have pH:y.heap[N]?=oa (oB #[Z U 8,oy od,oe ⟨#[]⟩,oe ⟨#[]⟩,ot ob 0 0,ot ob 0 0,ot ob 0 0,Z U ln,Z U cl] 282 (0,0)):=by
  rw[<-A];exact aq _ N 0 _ _ _ ((cH _ _ _ N (by show N≠r;omega)).trans rc.out)
 have pL:y.heap[N+1]?=oa (oB #[Z U 0,oy od,oe ⟨#[]⟩,oe ⟨#[]⟩,ot ob 0 0,ot ob 0 0,ot ob 0 0,Z U 0,Z U 0] 282 (0,0)):=by
  rw[<-A];exact(cH _ _ _ (N+1) (by show N+1≠N;omega)).trans ((cH _ _ _ (N+1) (by show N+1≠r;omega)).trans re.out)
 have pN:=zH pD;have rj:=zH pH;have pP:=zH pL;clear A pD pH pL a0 a1 a2 a3 a4 a5 a6 a7 a8 b0 b1 b2 b3 b4 b5 b6 b7 b8 c0 c1 c3 f1 hr g0 g1 g2 g3 g4 ra
 go_upto_region 34 with(go_at_call 263;refine(qr.out y pN.out.1).mono ?_;rintro e w5 ⟨rfl,pd⟩;have pf:=zH pd;have ph:=pd.2.heap rj.out (by omega);have rk:=zH ph;obtain⟨⟨a0,a1,a2,a3,a4,a5,a6,a7,a8⟩,⟨b0,b1,b2,b3,b4,b5,b6,b7,b8⟩,rl⟩:=dA ph;clear pd ph)
 obtain⟨Q,hQ⟩:=zE w5.heap.size;rw[hQ];obtain⟨D,J⟩:=zE ((w5.setCell ⟨N,4,ob⟩ (ot (oa ⟨Q,0,ob⟩) 1 1)).alloc (oB #[Z U e.kind,Z U e.n,oe e.nm,oe ⟨#[]⟩,ot ob 0 0,Z U e.ln,Z U e.cl] 313));rw[J];have oR:Ext (·=N) w5 D:=by rw[<-J];exact(ae (Ext.refl _ _) _).alloc _
 have rK:N+1<Q:=by rw[<-hQ];exact aa (pf.out.2.heap pP.out (by omega))
 have pS:D.heap[Q]?=oa (oB #[Z U e.kind,Z U e.n,oe e.nm,oe ⟨#[]⟩,ot ob 0 0,Z U e.ln,Z U e.cl] 313 (0,0)):=by
  have:=alloc_at (w5.setCell ⟨N,4,ob⟩ (ot (oa ⟨Q,0,ob⟩) 1 1)) (oB #[Z U e.kind,Z U e.n,oe e.nm,oe ⟨#[]⟩,ot ob 0 0,Z U e.ln,Z U e.cl] 313);rw[World.size_setCell,hQ,J] at this;exact this
 have pT:D.heap[N]?=oa (oB #[Z U 8,oy od,oe ⟨#[]⟩,oe ⟨#[]⟩,ot (oa ⟨Q,0,ob⟩) 1 1,ot ob 0 0,ot ob 0 0,Z U ln,Z U cl] 282 (0,0)):=by
  rw[<-J];exact(bt _ _ N (by rw[World.size_setCell];omega)).trans (aq _ N 4 _ _ _ rk.out)
 have pZ:=oR.heap (pf.out.2.heap pP.out (by omega)) (show¬N+1=N by omega);have pi:=pN.out.trans pf.out;have qe:aR r lb cap T k w D:=⟨pi.1.ext oR (by omega) (by have:=pb.out;omega),pi.2.trans oR (λk u=> .inr (by omega))⟩
 have qk:=zH qe;have rm:=zH pS;have rn:=zH pT;have ro:=zH pZ;clear hQ J oR pS pT pZ pi qe a0 a1 a2 a3 a4 a5 a6 a7 a8 b0 b1 b2 b3 b4 b5 b6 b7 b8 rl
 go_wp2_with (go_at_call 207;refine(pp.out D qk.out.1).mono ?_;rintro e w7 ⟨rfl,oS⟩;have qn:=zH oS;have qq:=oS.2.heap rn.out (by omega);have pj:=oS.2.heap ro.out (by omega);have rr:=zH pj;obtain⟨⟨a0,a1,a2,a3,a4,a5,a6,a7,a8⟩,⟨b0,b1,b2,b3,b4,b5,b6,b7,b8⟩,rL⟩:=dA qq;obtain⟨⟨p0,p1,p2,p3,p4,p5,p6,p7,p8⟩,⟨q0,q1,q2,q3,q4,q5,q6,q7,q8⟩,rN⟩:=dA pj;clear oS qq pj)
 (try simp only[cD,Exit.then]);refine cP (cV (P:=ac) rfl _ _ (N+1) 282 _ (0,0) _ rfl (iM rr.out) ir rfl (by kernel_rfl)) rfl ?_;have hM:=qk.out.trans qn.out;have pk:=iN w7 (N+1) (Z U 8) (oy od) (oe ⟨#[]⟩) (oe ⟨#[]⟩) (ot (oa ⟨Q,0,ob⟩) 1 1) (ot ob 0 0) (ot ob 0 0) (Z U ln) (Z U cl);refine⟨⟨8,bG,⟨#[]⟩,ot (oa ⟨Q,0,ob⟩) 1 1,ln,cl,[e]⟩,rfl,rfl,.inr ⟨Q,1,rfl,by omega, ?_⟩,hM.1.ext pk (by omega) (by have:=pb.out;omega),hM.2.trans pk (λk u=> .inr (by omega))⟩;exact pk.heap (qn.out.2.heap rm.out (by omega)) (by omega)
theorem o8 {r lb cap:bw}{T:bh Tok}{i:bw}{t u x v z:Tok}(ln cl d:ct)(w:World)(h:Rd r lb cap T i w)(ht:T[i]?=oa t)(D:bK t wI=oc)(hu:T[i+1]?=oa u)(pm:bK u dh=oc)(pn:T[i+2]?=oa x)(po:x.kind=1)(hv:T[i+3]?=oa v)(pp:bK v jP=oc)(hz:T[i+4]?=oa z)(hs:bK z bL=oc):
  et ac 261 #[ox (oa ⟨r,0,ob⟩),oA #[Z U 0,oy od,oe ⟨#[]⟩,oe ⟨#[]⟩,ot ob 0 0,ot ob 0 0,ot ob 0 0,Z U ln,Z U cl],Z U d] w (eG r lb cap T w ⟨9,bG,x.text,[]⟩ (i+5)):=by
 obtain⟨N,f⟩:=zE w.heap.size;obtain⟨W1,q⟩:=zE ((w.alloc (oB #[Z U 0,oy od,oe ⟨#[]⟩,oe ⟨#[]⟩,ot ob 0 0,ot ob 0 0,ot ob 0 0,Z U ln,Z U cl] 282)).alloc (oB #[Z U 0,oy od,oe ⟨#[]⟩,oe ⟨#[]⟩,ot ob 0 0,ot ob 0 0,ot ob 0 0,Z U 0,Z U 0] 282));have pc:=oL q f;have pw:W1.heap.size=N+2:=by rw[<-q];simp[f]
 have px:=uG q f;have py:=wy q f;have h1:=h.grow (by rw[f];exact pc);have pB:=zH (aP W1 h1 ht);have pD:cr (∀W,Rd r lb cap T (i+1) W->et ac 207 #[ox (oa ⟨r,0,ob⟩),oe dh] W λe w'=>e= oE (.tuple #[])/\aR r lb cap T (i+2) W w'):=λW g=>aH dh W g hu pm;have pH:cr (∀W,Rd r lb cap T (i+3) W->et ac 207 #[ox (oa ⟨r,0,ob⟩),oe jP] W λe w'=>e= oE (.tuple #[])/\aR r lb cap T (i+4) W w'):=λW g=>aH jP W g hv pp;have pL:cr (∀W,Rd r lb cap T (i+4) W->et ac 207 #[ox (oa ⟨r,0,ob⟩),oe bL] W λe w'=>e= oE (.tuple #[])/\aR r lb cap T (i+5) W w'):=λW g=>aH bL W g hz hs;have qS:cr (∀W,Rd r lb cap T (i+2) W->et ac 208 #[ox (oa ⟨r,0,ob⟩)] W λe w'=>e= oE (.tuple #[oe x.text,oA #[Z U x.ln,Z U x.cl]])/\aR r lb cap T (i+3) W w'):=λW g=>bT W g pn po;unfold dh at pD;unfold jP at pH;unfold bL at pL;obtain⟨pd,_⟩:=qX D;obtain⟨b,y⟩:=zE t.text;have hst:∀(w:World)(c:cC bo),c.size=5->(cM ⟨w.heap.size,0,ob⟩ [Z U t.kind,oe b,Z U t.n,Z U t.ln,Z U t.cl] 0).run ac (w.alloc (oB c 263))= .ok () (w.alloc (oB #[Z U t.kind,oe b,Z U t.n,Z U t.ln,Z U t.cl] 263)):=λw c hc=>
  cf (P:=ac) w 263 c #[Z U t.kind,oe b,Z U t.n,Z U t.ln,Z U t.cl] (by show _=oa 5;kernel_rfl) hc (by simp[bp])
 have qT:=zH hst;simp only[Tok.cells,y] at pB;rw[y] at pd;have j:b.toList=[102,114,101,101]:=by rw[pd];exact mU [102,114,101,101]
 have x1:(b.toList==[105,102])=od:=by rw[j];rfl
 have x2:(b.toList==[119,104,105,108,101])=od:=by rw[j];rfl
 have x3:(b.toList==[98,114,101,97,107])=od:=by rw[j];rfl
 have x4:(b.toList==[99,111,110,116,105,110,117,101])=od:=by rw[j];rfl
 have x5:(b.toList==[114,101,116,117,114,110])=od:=by rw[j];rfl
 have x6:(b.toList==[102,114,101,101])=oc:=by rw[j];rfl
 have rN:i<T.length:=(ca.1 ht).1;have hT:=h.short;have rS:r<N:=by rw[<-f];exact h.rlt
 have pf:cr (lb<N):=by unfold cr;rw[<-f];exact h.lt
 have ra:=zH q;have rb:=zH pc;have oR:=zH pw;have rc:=zH px;have re:=zH py;have H1:=zH h1;clear h ht D hu pm pn po hv pp hz hs q pc pw px py h1 pd y hst j;go_enter func261,ntmps261
 go_upto_region 2 with(go_at_call 170;rw[ra.out];refine pB.out.mono ?_;rintro e w2 ⟨rfl,pN⟩;have rh:=qT.out w2;have pP:=zH pN;clear pN)
 clear rh;obtain⟨G,hG⟩:=zE w2.heap.size;obtain⟨o,oS⟩:=zE (w2.alloc (oB #[Z U t.kind,oe b,Z U t.n,Z U t.ln,Z U t.cl] 263));rw[hG,oS];have J:=zD oS pP;have se:N+2<=G:=by rw[<-hG,<-oR.out];exact pP.out.size
 have pS:o.heap[G]?=oa (oB #[Z U t.kind,oe b,Z U t.n,Z U t.ln,Z U t.cl] 263 (0,0)):=by rw[<-oS,<-hG];exact alloc_at _ _
 obtain⟨⟨g0,g1,g2,g3,g4⟩,_,sf⟩:=dm pS;have ph:=(J.block N (by have:=oR.out;omega)).trans rc.out;have pT:=(J.block (N+1) (by have:=oR.out;omega)).trans re.out;obtain⟨⟨a0,a1,a2,a3,a4,a5,a6,a7,a8⟩,⟨b0,b1,b2,b3,b4,b5,b6,b7,b8⟩,rj⟩:=dA ph;have h3:=H1.out.grow J;obtain⟨c0,c1,c3,f1,hr⟩:=h3.cells;have rk:=zH J;have rl:=zH ph;have rm:=zH pT;have H3:=zH h3;clear hG oS J pS ph pT h3
 go_upto_region 26 with(fail)
 obtain⟨K,R⟩:=zE ((o.setCell ⟨r,1,ob⟩ (Z U ((i:ct)+1))).setCell ⟨N,0,ob⟩ (Z U 9));rw[R];have pZ:aR r lb cap T (i+1) w K:=by
  have a:aR r lb cap T (i+1) o (o.setCell ⟨r,1,ob⟩ (Z U ((i:ct)+1))):=⟨H3.out.step,Ext.set1 o r 1 _⟩
  have y:Ext (·=N) (o.setCell ⟨r,1,ob⟩ (Z U ((i:ct)+1))) K:=by rw[<-R];exact ae (Ext.refl _ _) _
  have rn:bj w.heap.size w o:=by rw[f];exact rb.out.trans (rk.out.mono (by rw[oR.out];omega))
  exact⟨a.1.ext y (by omega) (by have:=pf.out;omega),(aR.grown rn a).2.trans y (λk D=> .inr (by omega))⟩
 have qe:K.heap[N]?=oa (oB #[Z U 9,oy od,oe ⟨#[]⟩,oe ⟨#[]⟩,ot ob 0 0,ot ob 0 0,ot ob 0 0,Z U ln,Z U cl] 282 (0,0)):=by
  rw[<-R];exact aq _ N 0 _ _ _ ((cH _ _ _ N (by show N≠r;omega)).trans rl.out)
 have qk:K.heap[N+1]?=oa (oB #[Z U 0,oy od,oe ⟨#[]⟩,oe ⟨#[]⟩,ot ob 0 0,ot ob 0 0,ot ob 0 0,Z U 0,Z U 0] 282 (0,0)):=by
  rw[<-R];exact(cH _ _ _ (N+1) (by show N+1≠N;omega)).trans ((cH _ _ _ (N+1) (by show N+1≠r;omega)).trans rm.out)
 have qn:=zH pZ;have ro:=zH qe;have rr:=zH qk;clear R pZ qe qk a0 a1 a2 a3 a4 a5 a6 a7 a8 b0 b1 b2 b3 b4 b5 b6 b7 b8 c0 c1 c3 f1 hr g0 g1 g2 g3 g4 rj
 go_upto_region 27 with(go_at_call 207;refine(pD.out K qn.out.1).mono ?_;rintro e w5 ⟨rfl,qq⟩;have pi:=zH qq;clear qq)
 go_upto_region 28 with(go_at_call 208;refine(qS.out w5 pi.out.1).mono ?_;rintro e w6 ⟨rfl,pj⟩;have qr:=zH (pi.out.trans pj);have pk:=(pi.out.trans pj).2.heap ro.out (by omega);have rv:=zH pk;obtain⟨⟨a0,a1,a2,a3,a4,a5,a6,a7,a8⟩,⟨b0,b1,b2,b3,b4,b5,b6,b7,b8⟩,rx⟩:=dA pk;clear pj pk)
 obtain⟨W7,oT⟩:=zE (w6.setCell ⟨N,3,ob⟩ (oe x.text));rw[oT];have oX:Ext (·=N) w6 W7:=by rw[<-oT];exact ae (Ext.refl _ _) _
 have Y:W7.heap[N]?=oa (oB #[Z U 9,oy od,oe ⟨#[]⟩,oe x.text,ot ob 0 0,ot ob 0 0,ot ob 0 0,Z U ln,Z U cl] 282 (0,0)):=by
  rw[<-oT];exact aq _ N 3 _ _ _ rv.out
 have A:=oX.heap (qr.out.2.heap rr.out (by omega)) (show¬N+1=N by omega);have pl:=qn.out.trans qr.out;have qs:aR r lb cap T (i+3) w W7:=⟨pl.1.ext oX (by omega) (by have:=pf.out;omega),pl.2.trans oX (λk D=> .inr (by omega))⟩
 have qt:=zH qs;have rB:=zH Y;have rI:=zH A;clear oT oX Y A pl qs a0 a1 a2 a3 a4 a5 a6 a7 a8 b0 b1 b2 b3 b4 b5 b6 b7 b8 rx
 go_upto_region 34 with(go_at_call 207;refine(pH.out W7 qt.out.1).mono ?_;rintro e w8 ⟨rfl,qu⟩;have oY:=zH qu;clear qu)
 go_wp2_with (go_at_call 207;refine(pL.out w8 oY.out.1).mono ?_;rintro e w9 ⟨rfl,pb⟩;have rK:=zH (oY.out.trans pb);have Y:=(oY.out.trans pb).2.heap rB.out (by omega);have A:=(oY.out.trans pb).2.heap rI.out (by omega);have rL:=zH A;obtain⟨⟨a0,a1,a2,a3,a4,a5,a6,a7,a8⟩,⟨b0,b1,b2,b3,b4,b5,b6,b7,b8⟩,sg⟩:=dA Y;obtain⟨⟨p0,p1,p2,p3,p4,p5,p6,p7,p8⟩,⟨q0,q1,q2,q3,q4,q5,q6,q7,q8⟩,sk⟩:=dA A;clear pb Y A)
 (try simp only[cD,Exit.then]);refine cP (cV (P:=ac) rfl _ _ (N+1) 282 _ (0,0) _ rfl (iM rL.out) ir rfl (by kernel_rfl)) rfl ?_;have hM:=qt.out.trans rK.out;have qv:=iN w9 (N+1) (Z U 9) (oy od) (oe ⟨#[]⟩) (oe x.text) (ot ob 0 0) (ot ob 0 0) (ot ob 0 0) (Z U ln) (Z U cl);exact⟨⟨9,bG,x.text,ot ob 0 0,ln,cl,[]⟩,rfl,rfl,.inl ⟨rfl,rfl⟩,hM.1.ext qv (by omega) (by have:=pf.out;omega),hM.2.trans qv (λk D=> .inr (by omega))⟩
def gY:bh ap:=[⟨#[105,102]⟩,⟨#[119,104,105,108,101]⟩,⟨#[98,114,101,97,107]⟩,⟨#[99,111,110,116,105,110,117,101]⟩,⟨#[114,101,116,117,114,110]⟩,⟨#[102,114,101,101]⟩,⟨#[112,117,116]⟩]
theorem qd {t:Tok}{s:ap}{l:bh ap}(h:bK t s=oc)(a:s∈l):jk t l=oc:=by
 unfold jk;rw[ie];exact⟨s,a,h⟩
theorem Sm.inn.slice {B:bw}{w:World}{s:Sm}(h:s.inn B w):∃a n c,s.E= ot a n c:=by
 rcases h with h|⟨g,cap,b,_⟩
 ·exact⟨_,_,_,h.2⟩
 ·exact⟨_,_,_,b⟩
theorem uU {r lb cap:bw}{T:bh Tok}{i:bw}{k:bw}{t z:Tok}{e:Ex}(d:ct)(w:World)(h:Rd r lb cap T i w)(o:T[i]?=oa t)(J:bK t mF=oc)(hl:di T (i+1) e k)(hz:T[k]?=oa z)(hs:bK z bL=oc):
  et ac 243 #[ox (oa ⟨r,0,ob⟩),Z U d] w (eG r lb cap T w ⟨8,bG,⟨#[]⟩,[e]⟩ (k+1)):=by
 obtain⟨N,a⟩:=zE w.heap.size;obtain⟨f,q⟩:=zE (w.alloc (oB #[Z U 0,oy od,oe ⟨#[]⟩,oe ⟨#[]⟩,ot ob 0 0,ot ob 0 0,ot ob 0 0,Z U 0,Z U 0] 282));have oR:=gq q a;have pm:f.heap.size=N+1:=by rw[<-q];simp[a]
 have pn:f.heap[N]?=oa (oB #[Z U 0,oy od,oe ⟨#[]⟩,oe ⟨#[]⟩,ot ob 0 0,ot ob 0 0,ot ob 0 0,Z U 0,Z U 0] 282 (0,0)):=by rw[<-q,<-a];exact alloc_at _ _
 have g:=h.grow (by rw[a];exact oR);have oS:=zH (aP f g o);have po:cr (∀W,bj f.heap.size f W->zS 171 #[ox (oa ⟨r,0,ob⟩)] W (oy od)):=λW u=>aO W (g.grow u);have oT:cr (∀(b:bw) W,bj f.heap.size f W->b<W.heap.size->W.heap[b]?=oa (oB #[oe ⟨#[105,102]⟩,oe ⟨#[119,104,105,108,101]⟩,oe ⟨#[98,114,101,97,107]⟩,oe ⟨#[99,111,110,116,105,110,117,101]⟩,oe ⟨#[114,101,116,117,114,110]⟩,oe ⟨#[102,114,101,101]⟩,oe ⟨#[112,117,116]⟩] 9 (0,0))->zP 260 #[ox (oa ⟨r,0,ob⟩),ot (oa ⟨b,0,ob⟩) 7 7] W (oy (jk t gY))):=λb W u hb hr=>d9 b 7 gY W (g.grow u) o (by decide) hb (eU hr rfl);rw[qd J (show mF∈gY by decide)] at oT;have qs:cr (∀W,Rd r lb cap T i W->et ac 261 #[ox (oa ⟨r,0,ob⟩),oA #[Z U 0,oy od,oe ⟨#[]⟩,oe ⟨#[]⟩,ot ob 0 0,ot ob 0 0,ot ob 0 0,Z U t.ln,Z U t.cl],Z U d] W (eG r lb cap T W ⟨8,bG,⟨#[]⟩,[e]⟩ (k+1))):=λW u=>qY _ _ d W u o J hl hz hs;simp only[Tok.cells] at oS;have hst:∀(w:World)(c:cC bo),c.size=5->(cM ⟨w.heap.size,0,ob⟩ [Z U t.kind,oe t.text,Z U t.n,Z U t.ln,Z U t.cl] 0).run ac (w.alloc (oB c 263))= .ok () (w.alloc (oB #[Z U t.kind,oe t.text,Z U t.n,Z U t.ln,Z U t.cl] 263)):=λw c hc=>
  cf (P:=ac) w 263 c #[Z U t.kind,oe t.text,Z U t.n,Z U t.ln,Z U t.cl] (by show _=oa 5;kernel_rfl) hc (by simp[bp])
 have pp:∀(w:World)(c:cC bo),c.size=9->(cM ⟨w.heap.size,0,ob⟩ [Z U 0,oy od,oe ⟨#[]⟩,oe ⟨#[]⟩,ot ob 0 0,ot ob 0 0,ot ob 0 0,Z U t.ln,Z U t.cl] 0).run ac (w.alloc (oB c 282))= .ok () (w.alloc (oB #[Z U 0,oy od,oe ⟨#[]⟩,oe ⟨#[]⟩,ot ob 0 0,ot ob 0 0,ot ob 0 0,Z U t.ln,Z U t.cl] 282)):=λw c hc=>
  cf (P:=ac) w 282 c #[Z U 0,oy od,oe ⟨#[]⟩,oe ⟨#[]⟩,ot ob 0 0,ot ob 0 0,ot ob 0 0,Z U t.ln,Z U t.cl] (by show _=oa 9;kernel_rfl) hc (by simp[bp])
 have qt:=zH hst;have qu:=zH pp;have rK:i<T.length:=(ca.1 o).1;have hT:=h.short;have rL:r<N:=by rw[<-a];exact h.rlt
 have qv:cr (lb<N):=by unfold cr;rw[<-a];exact h.lt
 have qS:=zH q;have pw:=zH oR;have K:=zH pm;have qT:=zH pn;have H1:=zH g;clear h o hst pp q oR pm pn g J hl hz hs;go_enter func243,ntmps243
 go_upto_region 2 with(go_at_call 170;rw[qS.out];refine oS.out.mono ?_;rintro e w2 ⟨rfl,px⟩;have ra:=qt.out w2;have py:=zH px;clear px)
 clear ra;obtain⟨G,v⟩:=zE w2.heap.size;obtain⟨R,y⟩:=zE (w2.alloc (oB #[Z U t.kind,oe t.text,Z U t.n,Z U t.ln,Z U t.cl] 263));rw[v,y];have pB:=zD y py;have oX:R.heap.size=G+1:=by rw[<-y,<-v];simp
 have rN:N+1<=G:=by rw[<-v,<-K.out];exact py.out.size
 have oY:R.heap[G]?=oa (oB #[Z U t.kind,oe t.text,Z U t.n,Z U t.ln,Z U t.cl] 263 (0,0)):=by rw[<-y,<-v];exact alloc_at _ _
 obtain⟨⟨g0,g1,g2,g3,g4⟩,_,rS⟩:=dm oY;have pD:=qu.out R;have rb:=zH pB;have rc:=zH oY;clear v y pB oY;rw[oX] at pD
 go_upto_region 4 with(fail)
 clear pD;obtain⟨A,j⟩:=zE (R.alloc (oB #[Z U 0,oy od,oe ⟨#[]⟩,oe ⟨#[]⟩,ot ob 0 0,ot ob 0 0,ot ob 0 0,Z U t.ln,Z U t.cl] 282));rw[j];have D:=zD j rb;have re:A.heap.size=G+2:=by rw[<-j];simp[oX]
 have pH:A.heap[G+1]?=oa (oB #[Z U 0,oy od,oe ⟨#[]⟩,oe ⟨#[]⟩,ot ob 0 0,ot ob 0 0,ot ob 0 0,Z U t.ln,Z U t.cl] 282 (0,0)):=by rw[<-j,<-oX];exact alloc_at _ _
 have pL:A.heap[G]?=oa (oB #[Z U t.kind,oe t.text,Z U t.n,Z U t.ln,Z U t.cl] 263 (0,0)):=by rw[<-j];exact(bt _ _ G (by omega)).trans rc.out
 have pN:=(D.block N (by have:=K.out;omega)).trans qT.out;obtain⟨W5,Y⟩:=zE (A.alloc (oB #[oe ⟨#[105,102]⟩,oe ⟨#[119,104,105,108,101]⟩,oe ⟨#[98,114,101,97,107]⟩,oe ⟨#[99,111,110,116,105,110,117,101]⟩,oe ⟨#[114,101,116,117,114,110]⟩,oe ⟨#[102,114,101,101]⟩,oe ⟨#[112,117,116]⟩] 9));have pb:=jJ Y;have pc:=D.trans (pb.mono D.size);have pd:W5.heap[G+2]?=oa (oB #[oe ⟨#[105,102]⟩,oe ⟨#[119,104,105,108,101]⟩,oe ⟨#[98,114,101,97,107]⟩,oe ⟨#[99,111,110,116,105,110,117,101]⟩,oe ⟨#[114,101,116,117,114,110]⟩,oe ⟨#[102,114,101,101]⟩,oe ⟨#[112,117,116]⟩] 9 (0,0)):=by rw[<-Y,<-re];exact alloc_at _ _
 have rh:=zH (po.out A D);have rj:=zH (oT.out (G+2) W5 pc (aa pd) pd);have rk:=zH Y;have pP:=zH pb;have pS:=zH pc;have rl:=zH pH;have se:=zH pL;have rm:=zH pN;clear j D pH pL pN Y pb pc pd po oS oT g0 g1 g2 g3 g4
 go_upto_region 7 with(first
  |(go_at_call 171;refine rh.out.mono ?_;rintro e w5 ⟨rfl,rfl⟩)
  |(go_at_call 260;(try rw[rk.out]);refine rj.out.mono ?_;rintro e w6 ⟨rfl,pT⟩;have pZ:=zH pT;clear pT))
 have pf:=pP.out.trans (pZ.out.mono pP.out.size);have ph:=pS.out.trans (pZ.out.mono pS.out.size);have h6:=H1.out.grow ph;have qe:=(pf.block (G+1) (by omega)).trans rl.out;have qk:=(pf.block N (by omega)).trans rm.out;obtain⟨⟨a0,a1,a2,a3,a4,a5,a6,a7,a8⟩,_,sf⟩:=dA qe;have rn:=zH (qs.out w6 h6);have qn:=zH ph;have qq:=zH qk;clear pf ph h6 qe qk
 go_wp2_with (go_at_call 261;refine rn.out.mono ?_;rintro e w7 ⟨s,rfl,qr,pi,pj⟩;obtain⟨ro,en,ec,hE⟩:=pi.slice;have HE:=zH hE;have rr:=zH qr;have rv:=zH pi;have rx:=zH pj;have pk:=pj.2.heap qq.out (by omega);have rB:=zH pk;obtain⟨⟨p0,p1,p2,p3,p4,p5,p6,p7,p8⟩,⟨q0,q1,q2,q3,q4,q5,q6,q7,q8⟩,sg⟩:=dA pk;unfold Sm.cells;rw[hE];clear qr pi pj pk hE)
 (try simp only[cD,Exit.then]);refine cP (cV (P:=ac) rfl _ _ N 282 _ (0,0) _ rfl (iM rB.out) ir rfl (by kernel_rfl)) rfl ?_;have pl:=iN w7 N (Z U s.kind) (oy s.ty.1) (oe s.ty.2) (oe s.nm) (ot ro en ec) (ot ob 0 0) (ot ob 0 0) (Z U s.ln) (Z U s.cl);have rI:w.heap.size<=w6.heap.size:=(pw.out.trans (qn.out.mono (by rw[K.out];omega))).size;have sk:N<w6.heap.size:=aa qq.out;have hM:aR r lb cap T (k+1) w w7:=aR.grown (show bj w.heap.size w w6 by rw[a];exact pw.out.trans (qn.out.mono (by rw[K.out];omega))) rx.out;exact⟨s,by unfold Sm.cells;rw[HE.out],rr.out,(rv.out.ext pl (λk g h2 e=>by omega)).mono rI,hM.1.ext pl (by omega) (by have:=qv.out;omega),hM.2.trans pl (λk J=> .inr (by omega))⟩
theorem sP {r lb cap:bw}{T:bh Tok}{i:bw}{t u x v z:Tok}(d:ct)(w:World)(h:Rd r lb cap T i w)(o:T[i]?=oa t)(R:bK t wI=oc)(hu:T[i+1]?=oa u)(pn:bK u dh=oc)(po:T[i+2]?=oa x)(pp:x.kind=1)(hv:T[i+3]?=oa v)(pw:bK v jP=oc)(hz:T[i+4]?=oa z)(hs:bK z bL=oc):
  et ac 243 #[ox (oa ⟨r,0,ob⟩),Z U d] w (eG r lb cap T w ⟨9,bG,x.text,[]⟩ (i+5)):=by
 obtain⟨N,a⟩:=zE w.heap.size;obtain⟨f,q⟩:=zE (w.alloc (oB #[Z U 0,oy od,oe ⟨#[]⟩,oe ⟨#[]⟩,ot ob 0 0,ot ob 0 0,ot ob 0 0,Z U 0,Z U 0] 282));have oS:=gq q a;have px:f.heap.size=N+1:=by rw[<-q];simp[a]
 have py:f.heap[N]?=oa (oB #[Z U 0,oy od,oe ⟨#[]⟩,oe ⟨#[]⟩,ot ob 0 0,ot ob 0 0,ot ob 0 0,Z U 0,Z U 0] 282 (0,0)):=by rw[<-q,<-a];exact alloc_at _ _
 have g:=h.grow (by rw[a];exact oS);have oT:=zH (aP f g o);have pB:cr (∀W,bj f.heap.size f W->zS 171 #[ox (oa ⟨r,0,ob⟩)] W (oy od)):=λW y=>aO W (g.grow y);have oX:cr (∀(b:bw) W,bj f.heap.size f W->b<W.heap.size->W.heap[b]?=oa (oB #[oe ⟨#[105,102]⟩,oe ⟨#[119,104,105,108,101]⟩,oe ⟨#[98,114,101,97,107]⟩,oe ⟨#[99,111,110,116,105,110,117,101]⟩,oe ⟨#[114,101,116,117,114,110]⟩,oe ⟨#[102,114,101,101]⟩,oe ⟨#[112,117,116]⟩] 9 (0,0))->zP 260 #[ox (oa ⟨r,0,ob⟩),ot (oa ⟨b,0,ob⟩) 7 7] W (oy (jk t gY))):=λb W y hb hr=>d9 b 7 gY W (g.grow y) o (by decide) hb (eU hr rfl);rw[qd R (show wI∈gY by decide)] at oX;have qT:cr (∀W,Rd r lb cap T i W->et ac 261 #[ox (oa ⟨r,0,ob⟩),oA #[Z U 0,oy od,oe ⟨#[]⟩,oe ⟨#[]⟩,ot ob 0 0,ot ob 0 0,ot ob 0 0,Z U t.ln,Z U t.cl],Z U d] W (eG r lb cap T W ⟨9,bG,x.text,[]⟩ (i+5))):=λW y=>o8 _ _ d W y o R hu pn po pp hv pw hz hs;simp only[Tok.cells] at oT;have hst:∀(w:World)(c:cC bo),c.size=5->(cM ⟨w.heap.size,0,ob⟩ [Z U t.kind,oe t.text,Z U t.n,Z U t.ln,Z U t.cl] 0).run ac (w.alloc (oB c 263))= .ok () (w.alloc (oB #[Z U t.kind,oe t.text,Z U t.n,Z U t.ln,Z U t.cl] 263)):=λw c hc=>
  cf (P:=ac) w 263 c #[Z U t.kind,oe t.text,Z U t.n,Z U t.ln,Z U t.cl] (by show _=oa 5;kernel_rfl) hc (by simp[bp])
 have pD:∀(w:World)(c:cC bo),c.size=9->(cM ⟨w.heap.size,0,ob⟩ [Z U 0,oy od,oe ⟨#[]⟩,oe ⟨#[]⟩,ot ob 0 0,ot ob 0 0,ot ob 0 0,Z U t.ln,Z U t.cl] 0).run ac (w.alloc (oB c 282))= .ok () (w.alloc (oB #[Z U 0,oy od,oe ⟨#[]⟩,oe ⟨#[]⟩,ot ob 0 0,ot ob 0 0,ot ob 0 0,Z U t.ln,Z U t.cl] 282)):=λw c hc=>
  cf (P:=ac) w 282 c #[Z U 0,oy od,oe ⟨#[]⟩,oe ⟨#[]⟩,ot ob 0 0,ot ob 0 0,ot ob 0 0,Z U t.ln,Z U t.cl] (by show _=oa 9;kernel_rfl) hc (by simp[bp])
 have ra:=zH hst;have rb:=zH pD;have sf:i<T.length:=(ca.1 o).1;have hT:=h.short;have sg:r<N:=by rw[<-a];exact h.rlt
 have rc:cr (lb<N):=by unfold cr;rw[<-a];exact h.lt
 have re:=zH q;have pH:=zH oS;have Y:=zH px;have rh:=zH py;have H1:=zH g;clear h o hst pD q oS px py g R hu pn po pp hv pw hz hs;go_enter func243,ntmps243
 go_upto_region 2 with(go_at_call 170;rw[re.out];refine oT.out.mono ?_;rintro e w2 ⟨rfl,pL⟩;have rj:=ra.out w2;have pN:=zH pL;clear pL)
 clear rj;obtain⟨G,A⟩:=zE w2.heap.size;obtain⟨W3,D⟩:=zE (w2.alloc (oB #[Z U t.kind,oe t.text,Z U t.n,Z U t.ln,Z U t.cl] 263));rw[A,D];have pP:=zD D pN;have oY:W3.heap.size=G+1:=by rw[<-D,<-A];simp
 have sk:N+1<=G:=by rw[<-A,<-Y.out];exact pN.out.size
 have pb:W3.heap[G]?=oa (oB #[Z U t.kind,oe t.text,Z U t.n,Z U t.ln,Z U t.cl] 263 (0,0)):=by rw[<-D,<-A];exact alloc_at _ _
 obtain⟨⟨g0,g1,g2,g3,g4⟩,_,sn⟩:=dm pb;have pS:=rb.out W3;have rk:=zH pP;have rl:=zH pb;clear A D pP pb;rw[oY] at pS
 go_upto_region 4 with(fail)
 clear pS;obtain⟨J,j⟩:=zE (W3.alloc (oB #[Z U 0,oy od,oe ⟨#[]⟩,oe ⟨#[]⟩,ot ob 0 0,ot ob 0 0,ot ob 0 0,Z U t.ln,Z U t.cl] 282));rw[j];have K:=zD j rk;have rm:J.heap.size=G+2:=by rw[<-j];simp[oY]
 have pT:J.heap[G+1]?=oa (oB #[Z U 0,oy od,oe ⟨#[]⟩,oe ⟨#[]⟩,ot ob 0 0,ot ob 0 0,ot ob 0 0,Z U t.ln,Z U t.cl] 282 (0,0)):=by rw[<-j,<-oY];exact alloc_at _ _
 have pZ:J.heap[G]?=oa (oB #[Z U t.kind,oe t.text,Z U t.n,Z U t.ln,Z U t.cl] 263 (0,0)):=by rw[<-j];exact(bt _ _ G (by omega)).trans rl.out
 have qe:=(K.block N (by have:=Y.out;omega)).trans rh.out;obtain⟨W5,oR⟩:=zE (J.alloc (oB #[oe ⟨#[105,102]⟩,oe ⟨#[119,104,105,108,101]⟩,oe ⟨#[98,114,101,97,107]⟩,oe ⟨#[99,111,110,116,105,110,117,101]⟩,oe ⟨#[114,101,116,117,114,110]⟩,oe ⟨#[102,114,101,101]⟩,oe ⟨#[112,117,116]⟩] 9));have pc:=jJ oR;have pd:=K.trans (pc.mono K.size);have pf:W5.heap[G+2]?=oa (oB #[oe ⟨#[105,102]⟩,oe ⟨#[119,104,105,108,101]⟩,oe ⟨#[98,114,101,97,107]⟩,oe ⟨#[99,111,110,116,105,110,117,101]⟩,oe ⟨#[114,101,116,117,114,110]⟩,oe ⟨#[102,114,101,101]⟩,oe ⟨#[112,117,116]⟩] 9 (0,0)):=by rw[<-oR,<-rm];exact alloc_at _ _
 have rn:=zH (pB.out J K);have ro:=zH (oX.out (G+2) W5 pd (aa pf) pf);have rr:=zH oR;have qk:=zH pc;have qn:=zH pd;have rv:=zH pT;have so:=zH pZ;have rx:=zH qe;clear j K pT pZ qe oR pc pd pf pB oT oX g0 g1 g2 g3 g4
 go_upto_region 7 with(first
  |(go_at_call 171;refine rn.out.mono ?_;rintro e w5 ⟨rfl,rfl⟩)
  |(go_at_call 260;(try rw[rr.out]);refine ro.out.mono ?_;rintro e w6 ⟨rfl,qq⟩;have qr:=zH qq;clear qq))
 have ph:=qk.out.trans (qr.out.mono qk.out.size);have pi:=qn.out.trans (qr.out.mono qn.out.size);have h6:=H1.out.grow pi;have qs:=(ph.block (G+1) (by omega)).trans rv.out;have qt:=(ph.block N (by omega)).trans rx.out;obtain⟨⟨a0,a1,a2,a3,a4,a5,a6,a7,a8⟩,_,sq⟩:=dA qs;have rB:=zH (qT.out w6 h6);have qu:=zH pi;have qv:=zH qt;clear ph pi h6 qs qt
 go_wp2_with (go_at_call 261;refine rB.out.mono ?_;rintro e w7 ⟨s,rfl,qS,pj,pk⟩;obtain⟨rI,en,ec,hE⟩:=pj.slice;have HE:=zH hE;have rK:=zH qS;have rL:=zH pj;have rN:=zH pk;have pl:=pk.2.heap qv.out (by omega);have rS:=zH pl;obtain⟨⟨p0,p1,p2,p3,p4,p5,p6,p7,p8⟩,⟨q0,q1,q2,q3,q4,q5,q6,q7,q8⟩,sr⟩:=dA pl;unfold Sm.cells;rw[hE];clear qS pj pk pl hE)
 (try simp only[cD,Exit.then]);refine cP (cV (P:=ac) rfl _ _ N 282 _ (0,0) _ rfl (iM rS.out) ir rfl (by kernel_rfl)) rfl ?_;have pm:=iN w7 N (Z U s.kind) (oy s.ty.1) (oe s.ty.2) (oe s.nm) (ot rI en ec) (ot ob 0 0) (ot ob 0 0) (Z U s.ln) (Z U s.cl);have se:w.heap.size<=w6.heap.size:=(pH.out.trans (qu.out.mono (by rw[Y.out];omega))).size;have sx:N<w6.heap.size:=aa qv.out;have hM:aR r lb cap T (i+5) w w7:=aR.grown (show bj w.heap.size w w6 by rw[a];exact pH.out.trans (qu.out.mono (by rw[Y.out];omega))) rN.out;exact⟨s,by unfold Sm.cells;rw[HE.out],rK.out,(rL.out.ext pm (λk g h2 e=>by omega)).mono se,hM.1.ext pm (by omega) (by have:=rc.out;omega),hM.2.trans pm (λk R=> .inr (by omega))⟩
theorem sQ {r lb cap:bw}{T:bh Tok}{i:bw}{k:bw}{t u x v z:Tok}{e:Ex}(d:ct)(w:World)(h:Rd r lb cap T i w)(ht:T[i]?=oa t)(g:t.kind=1)(hu:T[i+1]?=oa u)(pN:bK u gL=oc)(rm:u.kind=4)(rn:T[i+2]?=oa x)(ro:x.kind=1)(hv:T[i+3]?=oa v)(rr:bK v Bh=oc)(hl:di T (i+4) e k)(hz:T[k]?=oa z)(hs:bK z bL=oc):
  et ac 243 #[ox (oa ⟨r,0,ob⟩),Z U d] w (eG r lb cap T w ⟨1,(oc,t.text),x.text,[e]⟩ (k+1)):=by
 obtain⟨N,hN⟩:=zE w.heap.size;obtain⟨f,oS⟩:=zE (w.alloc (oB #[Z U 0,oy od,oe ⟨#[]⟩,oe ⟨#[]⟩,ot ob 0 0,ot ob 0 0,ot ob 0 0,Z U 0,Z U 0] 282));have pP:=gq oS hN;have rv:f.heap.size=N+1:=by rw[<-oS];simp[hN]
 have rx:f.heap[N]?=oa (oB #[Z U 0,oy od,oe ⟨#[]⟩,oe ⟨#[]⟩,ot ob 0 0,ot ob 0 0,ot ob 0 0,Z U 0,Z U 0] 282 (0,0)):=by rw[<-oS,<-hN];exact alloc_at _ _
 have h1:=h.grow (by rw[hN];exact pP);have pS:=zH (aP f h1 ht);have rB:cr (∀W,bj f.heap.size f W->zS 171 #[ox (oa ⟨r,0,ob⟩)] W (oy od)):=λW a=>aO W (h1.grow a);have pT:cr (∀(b:bw) W,bj f.heap.size f W->b<W.heap.size->W.heap[b]?=oa (oB #[oe ⟨#[105,102]⟩,oe ⟨#[119,104,105,108,101]⟩,oe ⟨#[98,114,101,97,107]⟩,oe ⟨#[99,111,110,116,105,110,117,101]⟩,oe ⟨#[114,101,116,117,114,110]⟩,oe ⟨#[102,114,101,101]⟩,oe ⟨#[112,117,116]⟩] 9 (0,0))->zP 260 #[ox (oa ⟨r,0,ob⟩),ot (oa ⟨b,0,ob⟩) 7 7] W (oy (jk t gY))):=λb W a hb hr=>d9 b 7 gY W (h1.grow a) ht (by decide) hb (eU hr rfl);rw[kI (by omega) (by omega) gY] at pT;have pf:cr (∀W,bj f.heap.size f W->zP 172 #[ox (oa ⟨r,0,ob⟩),oe qQ] W (oy (bK t qQ))):=λW a=>aL _ W (h1.grow a) ht;rw[jb g] at pf;unfold qQ at pf;have pZ:cr (∀W,bj f.heap.size f W->zP 262 #[ox (oa ⟨r,0,ob⟩)] W (oy (u.text==gL))):=λW a=>qR W (h1.grow a) hu rm;rw[show(u.text==gL)=oc from nr.2 (qX pN).1] at pZ;have ub:cr (∀W,Rd r lb cap T i W->et ac 209 #[ox (oa ⟨r,0,ob⟩)] W λe w'=>e= oE (oA #[oy oc,oe t.text])/\aR r lb cap T (i+2) W w'):=λW a=>qc W a ht g hu pN;have uc:cr (∀W,Rd r lb cap T (i+2) W->et ac 208 #[ox (oa ⟨r,0,ob⟩)] W λe w'=>e= oE (.tuple #[oe x.text,oA #[Z U x.ln,Z U x.cl]])/\aR r lb cap T (i+3) W w'):=λW a=>bT W a rn ro;have rI:cr (∀W,Rd r lb cap T (i+3) W->et ac 207 #[ox (oa ⟨r,0,ob⟩),oe Bh] W λe w'=>e= oE (.tuple #[])/\aR r lb cap T (i+4) W w'):=λW a=>aH Bh W a hv rr;have rK:cr (∀W,Rd r lb cap T k W->et ac 207 #[ox (oa ⟨r,0,ob⟩),oe bL] W λe w'=>e= oE (.tuple #[])/\aR r lb cap T (k+1) W w'):=λW a=>aH bL W a hz hs;unfold Bh at rI;unfold bL at rK;have qe:∀W,Rd r lb cap T (i+4) W->et ac 263 #[ox (oa ⟨r,0,ob⟩),Z U d] W λen w'=>en= oE (oA e.cells)/\aR r lb cap T k W w':=λW a=>jO d W a hl hz hs;unfold Ex.cells at qe;have ud:=zH qe;clear qe;simp only[Tok.cells,g] at pS;have hst:∀(w:World)(c:cC bo),c.size=5->(cM ⟨w.heap.size,0,ob⟩ [Z U 1,oe t.text,Z U t.n,Z U t.ln,Z U t.cl] 0).run ac (w.alloc (oB c 263))= .ok () (w.alloc (oB #[Z U 1,oe t.text,Z U t.n,Z U t.ln,Z U t.cl] 263)):=λw c hc=>
  cf (P:=ac) w 263 c #[Z U 1,oe t.text,Z U t.n,Z U t.ln,Z U t.cl] (by show _=oa 5;kernel_rfl) hc (by simp[bp])
 have rL:∀(w:World)(c:cC bo),c.size=9->(cM ⟨w.heap.size,0,ob⟩ [Z U 0,oy od,oe ⟨#[]⟩,oe ⟨#[]⟩,ot ob 0 0,ot ob 0 0,ot ob 0 0,Z U t.ln,Z U t.cl] 0).run ac (w.alloc (oB c 282))= .ok () (w.alloc (oB #[Z U 0,oy od,oe ⟨#[]⟩,oe ⟨#[]⟩,ot ob 0 0,ot ob 0 0,ot ob 0 0,Z U t.ln,Z U t.cl] 282)):=λw c hc=>
  cf (P:=ac) w 282 c #[Z U 0,oy od,oe ⟨#[]⟩,oe ⟨#[]⟩,ot ob 0 0,ot ob 0 0,ot ob 0 0,Z U t.ln,Z U t.cl] (by show _=oa 9;kernel_rfl) hc (by simp[bp])
 have ue:=zH hst;have ur:=zH rL;have yb:i<T.length:=(ca.1 ht).1;have hT:=h.short;have yd:r<N:=by rw[<-hN];exact h.rlt
 have oT:cr (lb<N):=by unfold cr;rw[<-hN];exact h.lt
 have us:=zH oS;have uv:=zH pP;have qk:=zH rv;have ux:=zH rx;have H1:=zH h1;clear h ht hst rL oS pP rv rx h1 g hu pN rm rn ro hv rr hl hz hs;go_enter func243,ntmps243
 go_upto_region 2 with(go_at_call 170;rw[us.out];refine pS.out.mono ?_;rintro e w2 ⟨rfl,rN⟩;have va:=ue.out w2;have rS:=zH rN;clear rN)
 clear va;obtain⟨G,hG⟩:=zE w2.heap.size;obtain⟨W3,oX⟩:=zE (w2.alloc (oB #[Z U 1,oe t.text,Z U t.n,Z U t.ln,Z U t.cl] 263));rw[hG,oX];have se:=zD oX rS;have qn:W3.heap.size=G+1:=by rw[<-oX,<-hG];simp
 have ye:N+1<=G:=by rw[<-hG,<-qk.out];exact rS.out.size
 have qq:W3.heap[G]?=oa (oB #[Z U 1,oe t.text,Z U t.n,Z U t.ln,Z U t.cl] 263 (0,0)):=by rw[<-oX,<-hG];exact alloc_at _ _
 obtain⟨⟨g0,g1,g2,g3,g4⟩,_,yi⟩:=dm qq;have sf:=ur.out W3;have vc:=zH se;have vd:=zH qq;clear hG oX se qq;rw[qn] at sf
 go_upto_region 4 with(fail)
 clear sf;obtain⟨W4,oR⟩:=zE (W3.alloc (oB #[Z U 0,oy od,oe ⟨#[]⟩,oe ⟨#[]⟩,ot ob 0 0,ot ob 0 0,ot ob 0 0,Z U t.ln,Z U t.cl] 282));rw[oR];have oY:=zD oR vc;have vf:W4.heap.size=G+2:=by rw[<-oR];simp[qn]
 have sg:W4.heap[G+1]?=oa (oB #[Z U 0,oy od,oe ⟨#[]⟩,oe ⟨#[]⟩,ot ob 0 0,ot ob 0 0,ot ob 0 0,Z U t.ln,Z U t.cl] 282 (0,0)):=by rw[<-oR,<-qn];exact alloc_at _ _
 have sk:W4.heap[G]?=oa (oB #[Z U 1,oe t.text,Z U t.n,Z U t.ln,Z U t.cl] 263 (0,0)):=by rw[<-oR];exact(bt _ _ G (by omega)).trans vd.out
 have sn:=(oY.block N (by have:=qk.out;omega)).trans ux.out;obtain⟨W5,ph⟩:=zE (W4.alloc (oB #[oe ⟨#[105,102]⟩,oe ⟨#[119,104,105,108,101]⟩,oe ⟨#[98,114,101,97,107]⟩,oe ⟨#[99,111,110,116,105,110,117,101]⟩,oe ⟨#[114,101,116,117,114,110]⟩,oe ⟨#[102,114,101,101]⟩,oe ⟨#[112,117,116]⟩] 9));have qr:=jJ ph;have qs:=oY.trans (qr.mono oY.size);have qt:W5.heap[G+2]?=oa (oB #[oe ⟨#[105,102]⟩,oe ⟨#[119,104,105,108,101]⟩,oe ⟨#[98,114,101,97,107]⟩,oe ⟨#[99,111,110,116,105,110,117,101]⟩,oe ⟨#[114,101,116,117,114,110]⟩,oe ⟨#[102,114,101,101]⟩,oe ⟨#[112,117,116]⟩] 9 (0,0)):=by rw[<-ph,<-vf];exact alloc_at _ _
 have vh:=zH (rB.out W4 oY);have vi:=zH (pT.out (G+2) W5 qs (aa qt) qt);have vj:=zH ph;have so:=zH qr;have sq:=zH qs;have vm:=zH sg;have vn:=zH sk;have vp:=zH sn;clear oR oY sg sk sn ph qr qs qt rB pS pT g0 g1 g2 g3 g4
 go_upto_region 8 with(first
  |(go_at_call 171;refine vh.out.mono ?_;rintro e w5 ⟨rfl,rfl⟩)
  |(go_at_call 260;(try rw[vj.out]);refine vi.out.mono ?_;rintro e w6 ⟨rfl,sr⟩;have sx:=zH sr;clear sr))
 have pi:=so.out.trans (sx.out.mono so.out.size);have pb:=sq.out.trans (sx.out.mono sq.out.size);have qu:=(pi.block (G+1) (by omega)).trans vm.out;have sy:=(pi.block G (by omega)).trans vn.out;have sB:=(pi.block N (by omega)).trans vp.out;have vq:=zH (pf.out w6 pb);have vr:=zH (λW (hb:bj w6.heap.size w6 W)=>pZ.out W (pb.trans (hb.mono pb.size)));have sE:=zH pb;have vt:=zH qu;have vu:=zH sy;have vx:=zH sB;have yk:G+1<w6.heap.size:=aa qu;clear pi pb qu sy sB pZ pf
 go_upto_region 9 with(first
  |(go_at_call 172;refine vq.out.mono ?_;rintro e w7 ⟨rfl,qv⟩;have qS:=zH qv;obtain⟨⟨g0,g1,g2,g3,g4⟩,_,vy⟩:=dm ((qv.block G (by omega)).trans vu.out);clear qv)
  |(go_at_call 262;refine(vr.out w7 qS.out).mono ?_;rintro e w8 ⟨rfl,sL⟩;have qT:=zH (qS.out.trans (sL.mono qS.out.size));clear sL))
 have ra:=sE.out.trans (qT.out.mono sE.out.size);have h8:=H1.out.grow ra;have rb:=(qT.out.block (G+1) (by omega)).trans vt.out;have sR:=(qT.out.block N (by omega)).trans vx.out;obtain⟨⟨j,o,q,y,A,D,J,K,R⟩,⟨Y,b1,b2,b3,b4,b5,b6,b7,b8⟩,wa⟩:=dA rb;have H8:=zH h8;have wb:=zH ra;have we:=zH rb;have wg:=zH sR;clear ra h8 rb sR g0 g1 g2 g3 g4 vy
 go_upto_region 10 with(fail)
 obtain⟨W9,pj⟩:=zE (w8.setCell ⟨G+1,0,ob⟩ (Z U 1));rw[pj];have pk:Ext (·=G+1) w8 W9:=by rw[<-pj];exact ae (Ext.refl _ _) _
 have h9:=H8.out.ext pk (by omega) (by have:=oT.out;omega);have sT:aR r lb cap T i w W9:=⟨h9,((Ext.of_below_size (M:=(·=r)) (show bj w.heap.size w w8 by rw[hN];exact uv.out.trans (wb.out.mono (by rw[qk.out];omega))))).trans pk (λk g=> .inr (by omega))⟩
 have sX:W9.heap[G+1]?=oa (oB #[Z U 1,oy od,oe ⟨#[]⟩,oe ⟨#[]⟩,ot ob 0 0,ot ob 0 0,ot ob 0 0,Z U t.ln,Z U t.cl] 282 (0,0)):=by rw[<-pj];exact aq _ (G+1) 0 _ _ _ we.out
 have sY:=pk.heap wg.out (by omega);have ta:=zH sT;have wi:=zH sX;have wj:=zH sY;clear pj pk h9 sT sX sY j o q y A D J K R Y b1 b2 b3 b4 b5 b6 b7 b8 wa
 go_upto_region 11 with(go_at_call 209;refine(ub.out W9 ta.out.1).mono ?_;rintro e tc ⟨rfl,pl⟩;have te:=zH (ta.out.trans pl);have rc:=pl.2.heap wi.out (by omega);have tf:=pl.2.heap wj.out (by omega);have wk:=zH rc;have wl:=zH tf;obtain⟨⟨j,o,q,y,A,D,J,K,R⟩,⟨Y,b1,b2,b3,b4,b5,b6,b7,b8⟩,wn⟩:=dA rc;clear pl rc tf)
 obtain⟨pm,pn⟩:=zE ((tc.setCell ⟨G+1,1,ob⟩ (oy oc)).setCell ⟨G+1,2,ob⟩ (oe t.text));rw[pn];have po:Ext (·=G+1) tc pm:=by rw[<-pn];exact ae (ae (Ext.refl _ _) _) _
 have th:aR r lb cap T (i+2) w pm:=⟨te.out.1.ext po (by omega) (by have:=oT.out;omega),te.out.2.trans po (λk g=> .inr (by omega))⟩
 have ti:pm.heap[G+1]?=oa (oB #[Z U 1,oy oc,oe t.text,oe ⟨#[]⟩,ot ob 0 0,ot ob 0 0,ot ob 0 0,Z U t.ln,Z U t.cl] 282 (0,0)):=by rw[<-pn];exact aq _ (G+1) 2 _ _ _ (aq _ (G+1) 1 _ _ _ wk.out)
 have tj:=po.heap wl.out (by omega);have tl:=zH th;have ws:=zH ti;have wx:=zH tj;clear pn po th ti tj j o q y A D J K R Y b1 b2 b3 b4 b5 b6 b7 b8 wn
 go_upto_region 12 with(go_at_call 208;refine(uc.out pm tl.out.1).mono ?_;rintro e tm ⟨rfl,pp⟩;have tn:=zH (tl.out.trans pp);have re:=pp.2.heap ws.out (by omega);have tp:=pp.2.heap wx.out (by omega);have xa:=zH re;have xd:=zH tp;obtain⟨⟨j,o,q,y,A,D,J,K,R⟩,⟨Y,b1,b2,b3,b4,b5,b6,b7,b8⟩,xf⟩:=dA re;clear pp re tp)
 obtain⟨pw,px⟩:=zE (tm.setCell ⟨G+1,3,ob⟩ (oe x.text));rw[px];have py:Ext (·=G+1) tm pw:=by rw[<-px];exact ae (Ext.refl _ _) _
 have tr:aR r lb cap T (i+3) w pw:=⟨tn.out.1.ext py (by omega) (by have:=oT.out;omega),tn.out.2.trans py (λk g=> .inr (by omega))⟩
 have tt:pw.heap[G+1]?=oa (oB #[Z U 1,oy oc,oe t.text,oe x.text,ot ob 0 0,ot ob 0 0,ot ob 0 0,Z U t.ln,Z U t.cl] 282 (0,0)):=by rw[<-px];exact aq _ (G+1) 3 _ _ _ xa.out
 have tv:=py.heap xd.out (by omega);have tz:=zH tr;have xj:=zH tt;have xl:=zH tv;clear px py tr tt tv j o q y A D J K R Y b1 b2 b3 b4 b5 b6 b7 b8 xf
 go_upto_region 13 with(go_at_call 207;refine(rI.out pw tz.out.1).mono ?_;rintro e xo ⟨rfl,rh⟩;have tA:=zH (tz.out.trans rh);have tB:=zH rh.2;clear rh)
 go_upto_region 16 with(go_at_call 263;refine(ud.out xo tA.out.1).mono ?_;rintro e pB ⟨rfl,pD⟩;have tD:=zH (tA.out.trans pD);have rj:=pD.2.heap (tB.out.heap xj.out (by omega)) (by omega);have tE:=pD.2.heap (tB.out.heap xl.out (by omega)) (by omega);have xp:=zH rj;have xr:=zH tE;obtain⟨⟨j,o,q,y,A,D,J,K,R⟩,⟨Y,b1,b2,b3,b4,b5,b6,b7,b8⟩,tG⟩:=dA rj;clear pD rj tE)
 obtain⟨Q,hQ⟩:=zE pB.heap.size;rw[hQ];obtain⟨pc,pd⟩:=zE ((pB.setCell ⟨G+1,4,ob⟩ (ot (oa ⟨Q,0,ob⟩) 1 1)).alloc (oB #[Z U e.kind,Z U e.n,oe e.nm,oe ⟨#[]⟩,ot ob 0 0,Z U e.ln,Z U e.cl] 313));rw[pd];have pH:Ext (·=G+1) pB pc:=by rw[<-pd];exact(ae (Ext.refl _ _) _).alloc _
 have yp:G+1<Q:=by rw[<-hQ];exact tG
 have tM:pc.heap[Q]?=oa (oB #[Z U e.kind,Z U e.n,oe e.nm,oe ⟨#[]⟩,ot ob 0 0,Z U e.ln,Z U e.cl] 313 (0,0)):=by
  have:=alloc_at (pB.setCell ⟨G+1,4,ob⟩ (ot (oa ⟨Q,0,ob⟩) 1 1)) (oB #[Z U e.kind,Z U e.n,oe e.nm,oe ⟨#[]⟩,ot ob 0 0,Z U e.ln,Z U e.cl] 313);rw[World.size_setCell,hQ,pd] at this;exact this
 have tP:pc.heap[G+1]?=oa (oB #[Z U 1,oy oc,oe t.text,oe x.text,ot (oa ⟨Q,0,ob⟩) 1 1,ot ob 0 0,ot ob 0 0,Z U t.ln,Z U t.cl] 282 (0,0)):=by
  rw[<-pd];exact(bt _ _ (G+1) (by rw[World.size_setCell];omega)).trans (aq _ (G+1) 4 _ _ _ xp.out)
 have tR:=pH.heap xr.out (by omega);have tS:aR r lb cap T k w pc:=⟨tD.out.1.ext pH (by omega) (by have:=oT.out;omega),tD.out.2.trans pH (λk g=> .inr (by omega))⟩
 have tU:=zH tS;have xt:=zH tM;have xv:=zH tP;have xF:=zH tR;clear hQ pd pH tM tP tR tS j o q y A D J K R Y b1 b2 b3 b4 b5 b6 b7 b8 tG
 go_wp2_with (go_at_call 207;refine(rK.out pc tU.out.1).mono ?_;rintro e xT ⟨rfl,pL⟩;have tW:=zH pL;have ua:=pL.2.heap xv.out (by omega);have rk:=pL.2.heap xF.out (by omega);have ya:=zH rk;obtain⟨⟨j,o,q,y,A,D,J,K,R⟩,⟨Y,b1,b2,b3,b4,b5,b6,b7,b8⟩,yq⟩:=dA ua;obtain⟨⟨p0,p1,p2,p3,p4,p5,p6,p7,p8⟩,⟨q0,q1,q2,q3,q4,q5,q6,q7,q8⟩,yr⟩:=dA rk;clear pL ua rk)
 (try simp only[cD,Exit.then]);refine cP (cV (P:=ac) rfl _ _ N 282 _ (0,0) _ rfl (iM ya.out) ir rfl (by kernel_rfl)) rfl ?_;have hM:=tU.out.trans tW.out;have rl:=iN xT N (Z U 1) (oy oc) (oe t.text) (oe x.text) (ot (oa ⟨Q,0,ob⟩) 1 1) (ot ob 0 0) (ot ob 0 0) (Z U t.ln) (Z U t.cl);refine⟨⟨1,(oc,t.text),x.text,ot (oa ⟨Q,0,ob⟩) 1 1,t.ln,t.cl,[e]⟩,rfl,rfl,.inr ⟨Q,1,rfl,by omega, ?_⟩,hM.1.ext rl (by omega) (by have:=oT.out;omega),hM.2.trans rl (λk g=> .inr (by omega))⟩;exact rl.heap (tW.out.2.heap xt.out (by omega)) (by omega)
def jo:ap:=⟨#[123]⟩
def fw:ap:=⟨#[125]⟩
inductive iQ (T:bh Tok) (i:bw):lv->bw->Prop
 |ret (t z:Tok) (e:Ex) (k:bw):T[i]?=oa t->bK t mF=oc->di T (i+1) e k->T[k]?=oa z->bK z bL=oc->iQ T i ⟨8,bG,⟨#[]⟩,[e]⟩ (k+1)
 |free (t u x v z:Tok):T[i]?=oa t->bK t wI=oc->T[i+1]?=oa u->bK u dh=oc->T[i+2]?=oa x->x.kind=1->T[i+3]?=oa v->bK v jP=oc->T[i+4]?=oa z->bK z bL=oc->iQ T i ⟨9,bG,x.text,[]⟩ (i+5)
 |decl (t u x v z:Tok) (e:Ex) (k:bw):T[i]?=oa t->t.kind=1->T[i+1]?=oa u->bK u gL=oc->u.kind=4->T[i+2]?=oa x->x.kind=1->T[i+3]?=oa v->bK v Bh=oc->di T (i+4) e k->T[k]?=oa z->bK z bL=oc->
   iQ T i ⟨1,(oc,t.text),x.text,[e]⟩ (k+1)
theorem qZ {r lb cap:bw}{T:bh Tok}{i k:bw}{G:lv}(d:ct)(w:World)(h:Rd r lb cap T i w)(J:iQ T i G k):
  et ac 243 #[ox (oa ⟨r,0,ob⟩),Z U d] w (eG r lb cap T w G k):=by
 cases J with
 |ret t z e k a b f g j=>exact uU d w h a b f g j
 |free t u x v z a b f g j o q y A D=>exact sP d w h a b f g j o q y A D
 |decl t u x v z e k a b f g j o q y A D K N=>exact sQ d w h a b f g j o q y A D K N
theorem iQ.first {T:bh Tok}{i k:bw}{f:lv}(h:iQ T i f k):∃t,T[i]?=oa t/\bK t fw=od/\i<k:=by
 cases h with
 |ret t z e k a b d g j=>exact⟨t,a,gM b (by decide),by have:=d.first;obtain⟨_,_,_,h⟩:=this;omega⟩
 |free t u x v z a b=>exact⟨t,a,gM b (by decide),by omega⟩
 |decl t u x v z e k a b d g j q y A D o=>exact⟨t,a,jb b,by have:=o.first;obtain⟨_,_,_,h⟩:=this;omega⟩
inductive eH (T:bh Tok):bw->bh lv->bw->Prop
 |nil (i:bw):eH T i [] i
 |cons (i j k:bw) (sh:lv) (l:bh lv):iQ T i sh j->eH T j l k->eH T i (sh::l) k
theorem own_ne {w:World}{base:bw}{e t:eJ}{size n k:bw}{v:bo}{xs:bh bo}{f:cC bo}{j:bw×bw}(h:w.ownsRow base e size v n xs)(o:w.heap[k]?=oa (oB f t j))(q:t≠e):¬v.ownBlock=oa k:=by
 intro a;rcases h.2 with⟨b,_⟩|⟨g,cap,cur,b,_,d,_⟩
 ·rw[b] at a;cases a
 ·rw[b] at a
  have u:g=k:=by simpa[eL] using a
  subst u;rw[o] at d;simp only[fa,Obj.cells.injEq] at d;exact q d.2.1
theorem Sm.inn.own {B base n:bw}{w w':World}{s:Sm}{v:bo}{xs:bh bo}(h:s.inn B w)(b:w.ownsRow base 282 9 v n xs)(d:Ext (λk=>v.ownBlock=oa k) w w'):s.inn B w':=by
 rcases h with h|⟨g,cap,f,j,a⟩
 ·exact .inl h
 ·exact .inr ⟨g,cap,f,j,d.heap a (own_ne b a (by decide))⟩
def mV (r:bw)(T:bh Tok)(w:World):bw:=match w.cell? ⟨r,1,ob⟩ with
 |some (.int _ j)=>T.length-j.toNat
 |_=>0
theorem dE {r lb cap:bw}{T:bh Tok}{j:bw}{w:World}(h:Rd r lb cap T j w):mV r T w=T.length-j:=by
 unfold mV;rw[h.cells.2.1];simp
theorem eH.le {T:bh Tok}{i k:bw}{l:bh lv}(h:eH T i l k):i<=k:=by
 induction h with
 |nil=>exact bl _
 |cons i j k b l a _ ih=>obtain⟨_,_,_,h⟩:=a.first;omega
def Bi (s:Sm):bh bo:=s.cells.toList
theorem zt (s:Sm)(a:dr Addr)(b d:bw)(h:s.E= ot a b d):∀u∈s.cells.toList,u.oneCell'=oc:=by
 unfold Sm.cells;rw[h];simp[bp]
theorem xh:(ac.info? 282).map (λi=>(i.zero,i.size,i.bytes))=oa (oa (oA #[Z U 0,oy od,oe ⟨#[]⟩,oe ⟨#[]⟩,ot ob 0 0,ot ob 0 0,ot ob 0 0,Z U 0,Z U 0]),9,136):=by kernel_rfl
def sS (r lb cap:bw)(T:bh Tok)(w:World)(a:bh lv)(k:bw)(e:Ending)(w':World):Prop:=
 ∃(v:bo) (ss:bh Sm),e= oE v/\ss.map Sm.shp=a/\w'.ownsRow w.heap.size 282 9 v ss.length (ss.flatMap Bi)/\(∀s∈ss,s.inn w.heap.size w')/\aR r lb cap T k w w'
def AO (r lb cap:bw)(T:bh Tok)(w:World)(a:bh lv)(k j:bw)(v:bo)(wr:World):Prop:=
 ∃(ss:bh Sm) (l:bh lv),ss.map Sm.shp++l=a/\eH T j l k/\wr.ownsRow w.heap.size 282 9 v ss.length (ss.flatMap Bi)/\(∀s∈ss,s.inn w.heap.size wr)/\aR r lb cap T j w wr/\ss.length<=j
theorem o9 {r lb cap:bw}{T:bh Tok}{i k:bw}{t z:Tok}{oR:bh lv}(d:ct)(rl:0<=d)(hd:d<=100)(w:World)(h:Rd r lb cap T i w)(G:T[i]?=oa t)(ho:bK t jo=oc)(b:eH T (i+1) oR k)(hz:T[k]?=oa z)(J:bK z fw=oc):
  et ac 210 #[ox (oa ⟨r,0,ob⟩),Z U d] w (sS r lb cap T w oR (k+1)):=by
 have oT:=zH (aL jo w h G);rw[ho] at oT;unfold jo at oT;have pS:cr (∀W,bj w.heap.size w W->zS 242 #[ox (oa ⟨r,0,ob⟩),Z U (d+1)] W (oy oc)):=λW a=>oU (d+1) W (h.grow a) (by omega);have pj:cr (∀(j:bw)(t:Tok) W,T[j]?=oa t->Rd r lb cap T j W->zP 172 #[ox (oa ⟨r,0,ob⟩),oe ⟨#[125]⟩] W (oy (bK t fw))):=λj t W G a=>aL fw W a G;have pT:cr (∀(j:bw) W,Rd r lb cap T j W->zS 171 #[ox (oa ⟨r,0,ob⟩)] W (oy od)):=λj W a=>aO W a;have pZ:cr (∀(j k:bw)(K:lv) W,Rd r lb cap T j W->iQ T j K k->et ac 243 #[ox (oa ⟨r,0,ob⟩),Z U (d+1)] W (eG r lb cap T W K k)):=λj k K W a b=>qZ (d+1) W a b;have qe:cr (∀W,Rd r lb cap T k W->et ac 207 #[ox (oa ⟨r,0,ob⟩),oe ⟨#[125]⟩] W λe w'=>e= oE (.tuple #[])/\aR r lb cap T (k+1) W w'):=λW a=>aH fw W a hz J;have rm:i<T.length:=(ca.1 G).1;have hT:=h.short;have rn:=h.rlt;have ro:=h.lt;have H:=zH h;have HS:=zH b;have HZ:=zH hz;have HK:=zH J;obtain⟨i0,qk,qn,qq,qr⟩:=iu xh;clear h G ho b hz J;go_enter func210,ntmps210
 go_upto_region 6 with(first
  |(go_at_call 172;refine oT.out.mono ?_;rintro e w2 ⟨rfl,pk⟩;have oX:=zH pk;clear pk)
  |(go_at_call 242;refine(pS.out w2 oX.out).mono ?_;rintro e w3 ⟨rfl,rfl⟩))
 have h2:=H.out.grow oX.out;obtain⟨c0,c1,c3,f1,hr⟩:=h2.cells;have pl:aR r lb cap T (i+1) w (w2.setCell ⟨r,1,ob⟩ (Z U ((i:ct)+1))):=⟨h2.step,(Ext.of_below_size (M:=(·=r)) oX.out).trans (Ext.set1 w2 r 1 _) (λk J=> .inl J)⟩
 have pm:=zH pl;clear h2 pl
 go_upto_region 7 with(fail)
 obtain⟨W0,oY⟩:=zE (w2.setCell ⟨r,1,ob⟩ (Z U ((i:ct)+1)));rw[oY];rw[oY] at pm;clear oY c0 c1 c3 f1 hr
 go_loopw [5] (λv wr=>∃j:bw,AO r lb cap T w oR k j v wr) (λ_ wr=>mV r T wr)
 case atStart=>exact⟨i+1,[],oR,rfl,HS.out,World.ownsRow_nil _ _ _ _,by simp,pm.out,by simp⟩
 case round=>
  obtain⟨j,ss,l,hl,pn,pb,pc,o,rr⟩:=hrel;have qs:=zH (dE o.1);have rv:j<=1000000:=by
   have:=pn.le;have:=(ca.1 HZ.out).1;omega
  have HL:=zH hl;have pd:=zH pb;have po:=zH pc;have HM:=zH o;cases pn with
  |nil=>
   have N:=zH (pj.out k z wr HZ.out o.1);rw[HK.out] at N;clear hl pb pc o
   go_upto_region 9 with(go_at_call 172;refine N.out.mono ?_;rintro e u ⟨rfl,R⟩;have f:=zH R;clear R)
   have pp:=HM.out.grow f.out;have y:=zH pp;clear pp
   go_wp2_with (go_at_call 207;refine(qe.out u y.out.1).mono ?_;rintro e Y ⟨rfl,g⟩;have A:=zH g;clear g)
   go_ret;refine⟨_,ss,rfl,by rw[<-HL.out];simp, ?_, ?_,y.out.trans A.out⟩
   ·refine af (ownsRow_below pd.out f.out) A.out.2 (λq hq=> ?_)
    have:=(ah pd.out hq).1;omega
   ·intro s b
    exact((po.out s b).ext (Ext.of_below_size (M:=λ_=>fW) f.out) (λ_ _ _ h=>h)).ext A.out.2 (λq h1 _=>by omega)
  |cons _ j2 _ K l2 pf ph=>
   obtain⟨t1,pw,px,rx⟩:=pf.first
   have N:=zH (pj.out j t1 wr pw o.1);rw[px] at N;have qt:=zH (pT.out j);have qu:=zH (λW a=>pZ.out j j2 K W a pf);have qv:=zH ph;have rB:j2<=T.length:=cv ph.le (li (ca.1 HZ.out).1);clear hl pb pc o pf ph pw px
   go_upto_region 8 with(first
    |(go_at_call 172;refine N.out.mono ?_;rintro e u ⟨rfl,R⟩;have f:=zH R;clear R)
    |(go_at_call 171;refine(qt.out u (HM.out.1.grow f.out)).mono ?_;rintro e Y ⟨rfl,rfl⟩))
   have py:=zH (ownsRow_below pd.out f.out);have qS:cr (∀s∈ss,s.inn w.heap.size u):=λs b=>(po.out s b).ext (Ext.of_below_size (M:=λ_=>fW) f.out) (λ_ _ _ h=>h);have y:=zH (HM.out.grow f.out);have pB:w.heap.size<=u.heap.size:=y.out.2.size;have rI:ss.length<=1000000:=by omega
   go_wp2_with (first
    |(go_at_call 243;refine(qu.out u y.out.1).mono ?_;rintro e Y ⟨s,rfl,pD,pi,g⟩;obtain⟨qT,en,ec,hE⟩:=pi.slice;have pH:=zH (zt s qT en ec hE);have D:=zH (af py.out g.2 (λq hq=>by have:=(ah py.out hq).1;omega));have ra:cr (∀s∈ss,s.inn w.heap.size Y):=(λs b=>(qS.out s b).ext g.2 (λq h1 _=>by omega));have rb:=zH (pi.mono pB);have A:=zH (y.out.trans g);have rc:=zH pD;have re:w.heap.size<=Y.heap.size:=cv pB g.2.size;clear pD pi g hE;unfold Sm.cells at pH⊢)
    |(at_builtin;refine dZ rfl (.tmp 34) (.tmp 39) 231 rfl w.heap.size 282 i0 _ 9 136 underlying231 qk qn qq qr rfl (by decide) _ ss.length (ss.flatMap Bi) rfl D.out Y.heap.size #[Z U s.kind,oy s.ty.1,oe s.ty.2,oe s.nm,s.E,ot ob 0 0,ot ob 0 0,Z U s.ln,Z U s.cl] rfl rfl rfl pH.out (by unfold cX;omega) (by omega) re ?_;intro v7 w7 pL oS rh;have rj:=zH pL;have pN:=zH oS;have pP:cr (aR r lb cap T j2 w w7):=(⟨A.out.1.ext oS (λh=>by have:=(ah D.out h).1;omega) (λh=>by have:=(ah D.out h).1;omega),A.out.2.trans oS (λq hq=> .inr (ah D.out hq).1)⟩:aR r lb cap T j2 w w7);clear pL oS rh))
   go_roundw
   case rel=>
    refine⟨j2,ss++[s],l2, ?_,qv.out, ?_, ?_,pP.out,by rw[cm];simp;omega⟩
    ·rw[em,ef,<-HL.out,<-rc.out];rfl
    ·rw[dk,cm]
     exact rj.out
    ·intro s' rk
     rcases cw.1 rk with h|h
     ·exact(ra.out s' h).own D.out pN.out
     ·obtain rfl:s'=s:=by simpa using h
      exact rb.out.own D.out pN.out
   case measure=>
    rw[dE pP.out.1,qs.out];omega
theorem yl (a:ct)(s:ap)(n b d:ct)(W:World):(jp 263 (oA #[Z U a,oe s,Z U n,Z U b,Z U d]) 3).run ac W= .ok (oA #[Z U b,Z U d]) W:=by
 have f:=eK;have g:(ac.info? 40).map (·.size)=oa 2:=by kernel_rfl
 have h:=nl;unfold jp;rw[fi,dT f W];obtain⟨i,j,o⟩:=fS.1 g;simp[asAgg,part,go_sem,isAgg,sizeOf,typeInfo,j,o,fi,dT h W]
theorem mW (a:ct)(s:ap)(n b d:ct)(W:World):(jp 263 (oA #[Z U a,oe s,Z U n,Z U b,Z U d]) 0).run ac W= .ok (Z U a) W:=by
 have f:=eK;have g:=gt;unfold jp;rw[fi,dT f W];simp[asAgg,part,go_sem,isAgg,fi,dT g W]
def fU:ap:=⟨#[115,116,114,117,99,116]⟩
inductive ed (T:bh Tok):bw->bh (ap×Ty)->bw->Prop
 |nil (i:bw):ed T i [] i
 |cons (i j k:bw) (y:Ty) (x z:Tok) (l:bh (ap×Ty)):qU T i y j->T[j]?=oa x->x.kind=1->T[j+1]?=oa z->bK z bL=oc->ed T (j+2) l k->ed T i ((x.text,y)::l) k
theorem qU.first {T:bh Tok}{i k:bw}{y:Ty}(h:qU T i y k):∃t,T[i]?=oa t/\bK t fw=od/\i<k:=by
 cases h with
 |int t a b=>exact⟨t,a,gM b (by decide),by omega⟩
 |ptr t u a b=>exact⟨t,a,jb b,by omega⟩
theorem ed.le {T:bh Tok}{i k:bw}{l:bh (ap×Ty)}(h:ed T i l k):i<=k:=by
 induction h with
 |nil=>exact bl _
 |cons i j k y x z l a _ _ _ _ _ ih=>obtain⟨_,_,_,h⟩:=a.first;omega
def Fd.shp (f:Fd):ap×Ty:=(f.nm,f.ty)
def oM (f:Fd):bh bo:=f.cells.toList
theorem wJ:(ac.info? 92).map (λi=>(i.zero,i.size,i.bytes))=oa (oa (oA #[oe ⟨#[]⟩,oy od,oe ⟨#[]⟩,Z U 0,Z U 0]),5,56):=by kernel_rfl
def wK (r lb cap:bw)(T:bh Tok)(w:World)(d:ap)(l:bh (ap×Ty))(k:bw)(e:Ending)(w':World):Prop:=
 ∃(b:dr Addr) (c:bw) (a:bh Fd) (f g:ct),e= oE (oA #[oe d,ot b a.length c,Z U f,Z U g])/\a.map Fd.shp=l/\w'.ownsRow w.heap.size 92 5 (ot b a.length c) a.length (a.flatMap oM)/\aR r lb cap T k w w'
def BR (r lb cap:bw)(T:bh Tok)(w:World)(f:ap)(l:bh (ap×Ty))(g h:ct)(k B j:bw)(wr:World):Prop:=
 ∃(b:dr Addr) (c:bw) (a:bh Fd) (d:bh (ap×Ty)),a.map Fd.shp++d=l/\ed T j d k/\wr.heap[B]?=oa (oB #[oe f,ot b a.length c,Z U g,Z U h] 90 (0,0))/\
  wr.ownsRow (B+1) 92 5 (ot b a.length c) a.length (a.flatMap oM)/\aR r lb cap T j w wr/\a.length<=j/\wr.heap[w.heap.size]?=oa (oB #[oe ⟨#[]⟩,ot ob 0 0,Z U 0,Z U 0] 90 (0,0))
theorem jQ {r lb cap:bw}{T:bh Tok}{i k:bw}{t u x z z2:Tok}{l:bh (ap×Ty)}(w:World)(h:Rd r lb cap T i w)(K:T[i]?=oa t)(rn:bK t fU=oc)(hx:T[i+1]?=oa x)(ro:x.kind=1)(hu:T[i+2]?=oa u)(rr:bK u jo=oc)
  (R:ed T (i+3) l k)(hz:T[k]?=oa z)(d:bK z fw=oc)(rv:T[k+1]?=oa z2)(rx:bK z2 bL=oc):
  et ac 173 #[ox (oa ⟨r,0,ob⟩)] w (wK r lb cap T w x.text l (k+2)):=by
 obtain⟨N,f⟩:=zE w.heap.size;obtain⟨W1,oS⟩:=zE (w.alloc (oB #[oe ⟨#[]⟩,ot ob 0 0,Z U 0,Z U 0] 90));have pB:=gq oS f;have rB:W1.heap.size=N+1:=by rw[<-oS];simp[f]
 have oT:W1.heap[N]?=oa (oB #[oe ⟨#[]⟩,ot ob 0 0,Z U 0,Z U 0] 90 (0,0)):=by rw[<-oS,<-f];exact alloc_at _ _
 have h1:=h.grow (by rw[f];exact pB);have rI:=zH (aP W1 h1 K);have rK:cr (∀W,Rd r lb cap T i W->et ac 207 #[ox (oa ⟨r,0,ob⟩),oe fU] W λe w'=>e= oE (.tuple #[])/\aR r lb cap T (i+1) W w'):=λW b=>aH fU W b K rn;have tB:cr (∀W,Rd r lb cap T (i+1) W->et ac 208 #[ox (oa ⟨r,0,ob⟩)] W λe w'=>e= oE (.tuple #[oe x.text,oA #[Z U x.ln,Z U x.cl]])/\aR r lb cap T (i+2) W w'):=λW b=>bT W b hx ro;have rL:cr (∀W,Rd r lb cap T (i+2) W->et ac 207 #[ox (oa ⟨r,0,ob⟩),oe jo] W λe w'=>e= oE (.tuple #[])/\aR r lb cap T (i+3) W w'):=λW b=>aH jo W b hu rr;have rN:cr (∀W,Rd r lb cap T k W->et ac 207 #[ox (oa ⟨r,0,ob⟩),oe fw] W λe w'=>e= oE (.tuple #[])/\aR r lb cap T (k+1) W w'):=λW b=>aH fw W b hz d;have rS:cr (∀(j:bw)(z:Tok) W,T[j]?=oa z->bK z bL=oc->Rd r lb cap T j W->et ac 207 #[ox (oa ⟨r,0,ob⟩),oe ⟨#[59]⟩] W λe w'=>e= oE (.tuple #[])/\aR r lb cap T (j+1) W w'):=λj z W hz d b=>aH bL W b hz d;have tD:=zH (λW=>rS.out (k+1) z2 W rv rx);have se:cr (∀(j:bw)(t:Tok) W,T[j]?=oa t->Rd r lb cap T j W->zP 172 #[ox (oa ⟨r,0,ob⟩),oe ⟨#[125]⟩] W (oy (bK t fw))):=λj t W K b=>aL fw W b K;have tE:cr (∀(j:bw) W,Rd r lb cap T j W->zS 171 #[ox (oa ⟨r,0,ob⟩)] W (oy od)):=λj W b=>aO W b;have tG:cr (∀(j k:bw)(y:Ty) W,qU T j y k->Rd r lb cap T j W->et ac 209 #[ox (oa ⟨r,0,ob⟩)] W λe w'=>e= oE (oA #[oy y.1,oe y.2])/\aR r lb cap T k W w'):=λj k y W hy b=>lu W b hy;have tM:cr (∀(j:bw)(x:Tok) W,T[j]?=oa x->x.kind=1->Rd r lb cap T j W->et ac 208 #[ox (oa ⟨r,0,ob⟩)] W λe w'=>e= oE (.tuple #[oe x.text,oA #[Z U x.ln,Z U x.cl]])/\aR r lb cap T (j+1) W w'):=λj x W hx d b=>bT W b hx d;unfold fU at rK;unfold jo at rL;unfold fw at rN;simp only[Tok.cells] at rI;have hst:∀(w:World)(c:cC bo),c.size=4->(cM ⟨w.heap.size,0,ob⟩ [oe ⟨#[]⟩,ot ob 0 0,Z U t.ln,Z U t.cl] 0).run ac (w.alloc (oB c 90))= .ok () (w.alloc (oB #[oe ⟨#[]⟩,ot ob 0 0,Z U t.ln,Z U t.cl] 90)):=λw c hc=>
  cf (P:=ac) w 90 c #[oe ⟨#[]⟩,ot ob 0 0,Z U t.ln,Z U t.cl] (by show _=oa 4;kernel_rfl) hc (by simp[bp])
 have tP:=zH hst;have xf:i<T.length:=(ca.1 K).1;have hT:=h.short;have xj:r<N:=by rw[<-f];exact h.rlt
 have pf:cr (lb<N):=by unfold cr;rw[<-f];exact h.lt
 have tR:=zH oS;have tS:=zH pB;have sf:=zH rB;have tU:=zH oT;have H1:=zH h1;have tW:=zH R;have HZ:=zH hz;have HK:=zH d;have HN:=zH f;obtain⟨i0,ua,ub,uc,ud⟩:=iu wJ;clear h K rn hx ro hu rr R hz d rv rx oS pB rB oT h1 hst;have ue:=λW=>yl t.kind t.text t.n t.ln t.cl W;go_enter func173,ntmps173
 go_upto_region 2 with(go_at_call 170;rw[tR.out];refine rI.out.mono ?_;rintro e w2 ⟨rfl,sg⟩;have ur:=tP.out w2;have sk:=zH sg;clear sg)
 clear ur ue;obtain⟨B,hB⟩:=zE w2.heap.size;obtain⟨W3,ph⟩:=zE (w2.alloc (oB #[oe ⟨#[]⟩,ot ob 0 0,Z U t.ln,Z U t.cl] 90));rw[hB,ph];have pi:=zD ph sk;have xl:N+1<=B:=by rw[<-hB,<-sf.out];exact sk.out.size
 have Y:W3.heap[B]?=oa (oB #[oe ⟨#[]⟩,ot ob 0 0,Z U t.ln,Z U t.cl] 90 (0,0)):=by rw[<-ph,<-hB];exact alloc_at _ _
 have sn:=(pi.block N (by have:=sf.out;omega)).trans tU.out;have so:aR r lb cap T i w W3:=⟨H1.out.grow pi,(Ext.of_below_size (M:=(·=r)) (show bj w.heap.size w W1 by rw[f];exact tS.out)).trans (Ext.of_below_size (M:=(·=r)) pi) (λk d=> .inl d)⟩
 have sq:=zH so;have oR:=zH Y;have us:=zH sn;clear hB ph pi Y sn so
 go_upto_region 3 with(go_at_call 207;refine(rK.out W3 sq.out.1).mono ?_;rintro e w4 ⟨rfl,sr⟩;have pD:=zH sr;clear sr)
 go_upto_region 4 with(go_at_call 208;refine(tB.out w4 pD.out.1).mono ?_;rintro e w5 ⟨rfl,pH⟩;have sx:=zH (pD.out.trans pH);have pL:=(pD.out.trans pH).2.heap oR.out (by omega);have uv:=zH pL;obtain⟨⟨a0,a1,a2,a3⟩,⟨b0,b1,b2,b3⟩,sy⟩:=ji pL;clear pH pL)
 obtain⟨W6,pj⟩:=zE (w5.setCell ⟨B,0,ob⟩ (oe x.text));rw[pj];have pk:Ext (·=B) w5 W6:=by rw[<-pj];exact ae (Ext.refl _ _) _
 have sB:W6.heap[B]?=oa (oB #[oe x.text,ot ob 0 0,Z U t.ln,Z U t.cl] 90 (0,0)):=by rw[<-pj];exact aq _ B 0 _ _ _ uv.out
 have sE:=pk.heap (sx.out.2.heap us.out (by omega)) (show¬N=B by omega);have pN:=sq.out.trans sx.out;have sL:aR r lb cap T (i+2) w W6:=⟨pN.1.ext pk (by omega) (by have:=pf.out;omega),pN.2.trans pk (λk d=> .inr (by omega))⟩
 have sR:=zH sL;have ux:=zH sB;have va:=zH sE;clear pj pk sB sE pN sL a0 a1 a2 a3 b0 b1 b2 b3 sy
 go_upto_region 5 with(go_at_call 207;refine(rL.out W6 sR.out.1).mono ?_;rintro e w7 ⟨rfl,sT⟩;have pP:=zH sT;clear sT)
 have hI:BR r lb cap T w x.text l t.ln t.cl k B (i+3) w7:=⟨ob,0,[],l,rfl,tW.out,pP.out.2.heap ux.out (by omega),World.ownsRow_nil _ _ _ _,sR.out.trans pP.out,by simp,by rw[f];exact pP.out.2.heap va.out (by omega)⟩
 have HI:=zH hI;clear hI
 go_loopw [4] (λ_ wr=>∃j:bw,BR r lb cap T w x.text l t.ln t.cl k B j wr) (λ_ wr=>mV r T wr)
 case atStart=>exact⟨i+3,HI.out⟩
 case round=>
  obtain⟨j,ao,c,D,l2,R,sX,Y,pS,hm,xo,pl⟩:=hrel;rw[f] at pl;have vc:=zH (dE hm.1);have xp:j<=1000000:=by
   have:=sX.le;have:=(ca.1 HZ.out).1;omega
  have HL:=zH R;have pm:=zH pS;have HM:=zH hm;have oR:=zH Y;have pn:=zH pl;cases sX with
  |nil=>
   have oX:=zH (se.out k z wr HZ.out hm.1);rw[HK.out] at oX;clear R pS hm Y pl
   go_upto_region 10 with(go_at_call 172;refine oX.out.mono ?_;rintro e v ⟨rfl,oY⟩;have g:=zH oY;clear oY)
   have sY:=HM.out.grow g.out;have pb:=zH sY;clear sY
   go_upto_region 11 with(go_at_call 207;refine(rN.out v pb.out.1).mono ?_;rintro e w9 ⟨rfl,pc⟩;have G:=zH pc;clear pc)
   go_wp2_with (go_at_call 207;refine(tD.out w9 G.out.1).mono ?_;rintro e xr ⟨rfl,J⟩;have pd:=zH (G.out.trans J);have oT:=(G.out.trans J).2.heap ((g.out.block B (aa oR.out)).trans oR.out) (by omega);have pT:=(G.out.trans J).2.heap ((g.out.block N (aa pn.out)).trans pn.out) (by omega);have vd:=zH pT;obtain⟨⟨a0,a1,a2,a3⟩,⟨b0,b1,b2,b3⟩,sy⟩:=ji oT;obtain⟨⟨p0,p1,p2,p3⟩,⟨q0,q1,q2,q3⟩,xt⟩:=ji pT;clear J oT pT)
   (try simp only[cD,Exit.then]);refine cP (cV (P:=ac) rfl _ _ N 90 _ (0,0) _ rfl (fe vd.out) kB rfl (by kernel_rfl)) rfl ?_;have hM:=pb.out.trans pd.out;have pZ:∀W u0 u1 u2 u3,Ext (·=N) W ((((W.setCell ⟨N,0,ob⟩ u0).setCell ⟨N,1,ob⟩ u1).setCell ⟨N,2,ob⟩ u2).setCell ⟨N,3,ob⟩ u3):=λW u0 u1 u2 u3=>ae (ae (ae (ae (Ext.refl _ _) _) _) _) _;refine⟨ao,c,D,t.ln,t.cl,rfl,by rw[<-HL.out];simp, ?_,hM.1.ext (pZ _ _ _ _ _) (by omega) (by have:=pf.out;omega),hM.2.trans (pZ _ _ _ _ _) (λk d=> .inr (by omega))⟩;rw[f];refine aD (af (af (ownsRow_below pm.out g.out) pd.out.2 (λq o=> ?_)) (pZ _ _ _ _ _) (λq o=> ?_)) (show N<=B+1 by omega)
   ·have:=(ah pm.out o).1;omega
   ·have:=(ah pm.out o).1;omega
  |cons _ A _ y a z3 l3 qe ta tc te tf qk=>
   obtain⟨t1,th,ti,xv⟩:=qe.first
   have oX:=zH (se.out j t1 wr th hm.1);rw[ti] at oX;have vf:=zH (tE.out j);have vh:=zH (λW=>tG.out j A y W qe);have vi:=zH (λW=>tM.out A a W ta tc);have vj:=zH (λW=>rS.out (A+1) z3 W te tf);have vm:=zH qk;have xF:A+2<=T.length:=cv qk.le (li (ca.1 HZ.out).1);clear R pS hm Y pl qe ta tc te tf qk th ti
   go_upto_region 6 with(first
    |(go_at_call 172;refine oX.out.mono ?_;rintro e v ⟨rfl,oY⟩;have g:=zH oY;clear oY)
    |(go_at_call 171;refine(vf.out v (HM.out.1.grow g.out)).mono ?_;rintro e w9 ⟨rfl,rfl⟩))
   have pb:=zH (HM.out.grow g.out);have tj:∀(w:World)(c:cC bo),c.size=5->(cM ⟨w.heap.size,0,ob⟩ [oe ⟨#[]⟩,oy y.1,oe y.2,Z U 0,Z U 0] 0).run ac (w.alloc (oB c 92))= .ok () (w.alloc (oB #[oe ⟨#[]⟩,oy y.1,oe y.2,Z U 0,Z U 0] 92)):=λw c hc=>
    cf (P:=ac) w 92 c #[oe ⟨#[]⟩,oy y.1,oe y.2,Z U 0,Z U 0] (by show _=oa 5;kernel_rfl) hc (by simp[bp])
   have vn:=zH tj;clear tj
   go_upto_region 7 with(go_at_call 209;refine(vh.out v pb.out.1).mono ?_;rintro e w9 ⟨rfl,pc⟩;have G:=zH pc;have vp:=vn.out w9;clear pc)
   clear vp;obtain⟨F,hF⟩:=zE w9.heap.size;obtain⟨qn,po⟩:=zE (w9.alloc (oB #[oe ⟨#[]⟩,oy y.1,oe y.2,Z U 0,Z U 0] 92));rw[hF,po];have tl:=jJ po;have tm:qn.heap[F]?=oa (oB #[oe ⟨#[]⟩,oy y.1,oe y.2,Z U 0,Z U 0] 92 (0,0)):=by rw[<-po,<-hF];exact alloc_at _ _
   have J:aR r lb cap T A v qn:=G.out.grow tl;have qq:=(g.out.block B (aa oR.out)).trans oR.out;have tn:=(g.out.block N (aa pn.out)).trans pn.out;have tp:=ownsRow_below pm.out g.out;have xT:v.heap.size<=F:=by rw[<-hF];exact G.out.2.size
   have ya:B<v.heap.size:=aa qq;have pd:=zH J;have vq:=zH tm;have vr:=zH qq;have vt:=zH tn;have tr:=zH tp;clear hF po tl tm J qq tn tp
   go_upto_region 8 with(go_at_call 208;refine(vi.out qn pd.out.1).mono ?_;rintro e qr ⟨rfl,qs⟩;have tt:=zH (pd.out.trans qs);have qt:=qs.2.heap vq.out (by omega);have vu:=zH qt;obtain⟨⟨a0,a1,a2,a3,a4⟩,⟨b0,b1,b2,b3,b4⟩,vx⟩:=dm qt;clear qs qt)
   obtain⟨pp,pw⟩:=zE (((qr.setCell ⟨F,0,ob⟩ (oe a.text)).setCell ⟨F,3,ob⟩ (Z U a.ln)).setCell ⟨F,4,ob⟩ (Z U a.cl));rw[pw];have qu:Ext (·=F) qr pp:=by rw[<-pw];exact ae (ae (ae (Ext.refl _ _) _) _) _
   have tv:pp.heap[F]?=oa (oB #[oe a.text,oy y.1,oe y.2,Z U a.ln,Z U a.cl] 92 (0,0)):=by
    rw[<-pw];have h1:_=oa (Obj.cells #[oe a.text,oy y.1,oe y.2,Z U 0,Z U 0] 92 (0,0)):=aq qr F 0 _ _ (oe a.text) vu.out;have h2:_=oa (Obj.cells #[oe a.text,oy y.1,oe y.2,Z U a.ln,Z U 0] 92 (0,0)):=aq _ F 3 _ _ (Z U a.ln) h1;exact aq _ F 4 _ _ (Z U a.cl) h2
   have tz:aR r lb cap T (A+1) v pp:=⟨tt.out.1.ext qu (by omega) (by have:=pf.out;omega),tt.out.2.trans qu (λk d=> .inr (by omega))⟩
   have tA:=zH tz;have vy:=zH tv;clear pw qu tv tz a0 a1 a2 a3 a4 b0 b1 b2 b3 b4 vx
   go_upto_region 9 with(go_at_call 207;refine(vj.out pp tA.out.1).mono ?_;rintro e qv ⟨rfl,qS⟩;have px:=zH (tA.out.trans qS);have wa:=zH (qS.2.heap vy.out (by omega));clear qS)
   have qT:=px.out.2.heap vr.out (show¬B=r by omega);have wb:=zH qT;have we:=zH (px.out.2.heap vt.out (show¬N=r by omega));have ra:=zH (af tr.out px.out.2 (λq o=>by have:=(ah tr.out o).1;omega));obtain⟨⟨c0,c1,c2,c3⟩,⟨d0,d1,d2,d3⟩,wg⟩:=ji qT;obtain⟨⟨a0,a1,a2,a3,a4⟩,⟨b0,b1,b2,b3,b4⟩,yb⟩:=dm wa.out;have wi:B+1<=qv.heap.size:=wg;have yd:D.length<=1000000:=by omega
   clear qT
   go_wp2_with (at_builtin;refine dZ rfl (.tmp 40) (.tmp 42) 88 rfl (B+1) 92 i0 _ 5 56 fc ua ub uc ud rfl (by decide) _ D.length (D.flatMap oM) rfl ra.out qv.heap.size #[oe a.text,oy y.1,oe y.2,Z U a.ln,Z U a.cl] rfl rfl rfl (by simp[bp]) (by unfold cX;omega) (by omega) wi ?_;intro ye rb rc re wj;obtain⟨rh,rj,wk⟩:=au rc;subst wk;have wl:=zH rc;have wn:=zH re;have rk:=re.heap wb.out (λh=>by have:=(ah ra.out h).1;omega);have ws:=zH rk;obtain⟨⟨c0,c1,c2,c3⟩,⟨d0,d1,d2,d3⟩,yi⟩:=ji rk;clear rc re wj rk)
   have py:Ext (λq=>B<=q) qv (rb.setCell ⟨B,1,ob⟩ (ot rh (D.length+1) rj)):=(wn.out.mono (λq o=>by have:=(ah ra.out o).1;omega)).trans (Ext.set1 rb B 1 _) (λq o=> .inl (by omega));have rl:=pb.out.trans px.out;have rm:aR r lb cap T (A+1+1) w (rb.setCell ⟨B,1,ob⟩ (ot rh (D.length+1) rj)):=⟨rl.1.ext py (by omega) (by have:=pf.out;omega),rl.2.trans py (λq o=> .inr (by omega))⟩
   have wx:=zH rm;have xa:=zH (dE rm.1);have xd:=zH py;clear py rl rm;go_roundw
   case rel=>
    refine⟨A+2,rh,rj,D++[⟨a.text,y.1,y.2,a.ln,a.cl⟩],l3, ?_,vm.out, ?_, ?_,wx.out,by rw[cm];simp;omega, ?_⟩
    ·rw[em,ef,<-HL.out];rfl
    ·rw[cm]
     exact aq _ B 1 _ _ _ ws.out
    ·rw[dk,cm]
     exact gr wl.out (by show B<B+1;omega) _
    ·rw[HN.out];exact xd.out.heap we.out (by omega)
   case measure=>
    rw[xa.out,vc.out];omega
end Go.Proofs.YtjomgckjhcfbgaaGreat
