/- Walks. -/
import Derived.Test.YtjomgckjhcfbgaaGreatX1
set_option maxRecDepth 100000
set_option maxHeartbeats 64000000
set_option linter.all false
namespace Go.Proofs.YtjomgckjhcfbgaaGreat
open Go.RowKit
open Go.Proofs.Tryz renaming prog→ac,underlying3→cP,underlying263→gd,underlying88→gi,underlying313→gn,underlying282→la,underlying40→li,underlying90→ms
open Go.RowKit.Below renaming refl→an,heap_alloc→bt,heap_setCell→cQ
open Go.RowKit renaming Below→aq,Hid→ca,ownsRow_setCell_below→i5
open _root_ renaming ByteArray→aw,List→bm,Nat→cd,Int→cj,Array→cG,beq_eq_false_iff_ne→cR,Option→du,False→jp,beq_iff_eq→nB
open Go renaming heap_setCell_same→aE,cell_of_row→bh,Value→bw,run_storeCells_new→cf,storeCells→cU,bodyPost_ret→da,maxLen→dl,results_cell_row→dv,run_underlying→eJ,Calls→ft,TypeId→ge,info_parts→ld,Addr→oA
open _root_.List renaming getElem?_eq_some_iff→bl,length_append→co,mem_append→cC,flatMap_append→el,append_assoc→eE,map_append→eS,any_eq_true→ju,any_eq_false→kp
open _root_.Nat renaming le_refl→bp,le_trans→cE,le_of_lt→mT
open Go.Value renaming oneCell'→br,string→em,ownBlock→eN,string→qT,slice→ra,pointer→rb,bool→re,agg→rh,int→Z
open Go.Exit renaming inBlock→cL
open _root_.Option.some renaming injEq→dc
open _root_.Bool renaming and_eq_true→eK,or_eq_true→gx,true→qv,false→qS
open Go.Sem renaming run_bind→fc
open _root_.Option renaming map_eq_some_iff→gw,some→qt,none→qu
open Go.Instr renaming field→ly
open Go.ByteArray renaming toList_eq→mN
open Go.Obj renaming cells→rj
open Go.Ending renaming returned→rk
open Go.IntKind renaming i64→U
open Tryz
def di:aw:=⟨#[59]⟩
def xR:aw:=⟨#[45,62]⟩
theorem jd {t:Tok}{s s':aw}(h:cO t s=qv)(d:s≠s'):cO t s'=qS:=by
 unfold cO at h⊢;rw[eK] at h;have e:t.text=s:=eq_of_beq h.2;rw[e,cR.2 d,Bool.and_false]
theorem mZ {t:Tok}(d:t.kind≠2)(f:t.kind≠4)(l:bm aw):kM t l=qS:=by
 unfold kM;rw[kp];intro s _;unfold cO;rw[cR.2 d,cR.2 f];simp
theorem kE {t:Tok}{s:aw}(h:cO t s=qv){l:bm aw}(d:∀x∈l,s≠x):kM t l=qS:=by
 unfold kM;rw[kp];intro x f;rw[jd h (d x f)];simp
inductive dZ (T:bm Tok) (i:cd):Ex->cd->Prop
 |num (t:Tok):T[i]?=qt t->t.kind=3->dZ T i ⟨1,t.n,⟨#[]⟩,t.ln,t.cl⟩ (i+1)
 |var (t u:Tok):T[i]?=qt t->t.kind=1->T[i+1]?=qt u->cO u dY=qS->dZ T i ⟨2,0,t.text,t.ln,t.cl⟩ (i+1)
 |new (t u:Tok):T[i]?=qt t->t.kind=2->cO t Bl=qv->T[i+1]?=qt u->u.kind=1->dZ T i ⟨7,0,u.text,t.ln,t.cl⟩ (i+1+1)
theorem dZ.first {T:bm Tok}{i k:cd}{e:Ex}(h:dZ T i e k):∃t,T[i]?=qt t/\(t.kind=3\/t.kind=1\/cO t Bl=qv)/\i<k:=by
 cases h with
 |num t d f=>exact⟨t,d,.inl f,by omega⟩
 |var t u d f=>exact⟨t,d,.inr (.inl f),by omega⟩
 |new t u d f o=>exact⟨t,d,.inr (.inr o),by omega⟩
theorem oo {r lb cap:cd}{T:bm Tok}{i k:cd}{e:Ex}(d:cj)(w:World)(h:Rd r lb cap T i w)(y:dZ T i e k):
  ft ac 278 #[rb (qt ⟨r,0,qu⟩),Z U d] w λA w'=>A= rk (rh e.cells)/\bu r lb cap T k w w':=by
 cases y with
 |num t f o=>exact rf d w h f o
 |var t u f o q v=>exact rq d w h f o q v
 |new t u f o q v D=>exact ru d w h f o q (jd q (by decide)) v D
theorem ry {r lb cap:cd}{T:bm Tok}{i k:cd}{e:Ex}{z:Tok}(d:cj)(w:World)(h:Rd r lb cap T i w)(v:dZ T i e k)(hz:T[k]?=qt z)(hs:cO z di=qv):
  ft ac 276 #[rb (qt ⟨r,0,qu⟩),Z U d] w λy w'=>y= rk (rh e.cells)/\bu r lb cap T k w w':=by
 obtain⟨N,f⟩:=zE w.heap.size;obtain⟨W1,q⟩:=zE ((w.alloc (rj #[Z U 0,Z U 0,qT ⟨#[]⟩,qT ⟨#[]⟩,ra qu 0 0,Z U 0,Z U 0] 313)).alloc (rj #[qT ⟨#[45]⟩,qT ⟨#[33]⟩] 9));have A:=qQ q f;have rB:W1.heap.size=N+2:=by rw[<-q];simp[f]
 have rI:=vN q f;have rK:=xI q f;have D:=h.grow (by rw[f];exact A);obtain⟨t,ht,rL,tm⟩:=v.first
 have J:=gu (N+1) 2 [⟨#[45]⟩,⟨#[33]⟩] W1 D ht (by decide) (by omega) (λk x o=>by
  rw[bh _ _ _ _ _ _ rK]
  match k,o with
  |0,o=>simp at o;subst o;rfl
  |1,o=>simp at o;subst o;rfl)
 have rN:kM t [⟨#[45]⟩,⟨#[33]⟩]=qS:=by
  rcases rL with h|h|h
  ·exact mZ (by omega) (by omega) _
  ·exact mZ (by omega) (by omega) _
  ·exact kE h (by decide)
 rw[rN] at J;have sT:=zH J;have K:∀W,Rd r lb cap T i W->ft ac 278 #[rb (qt ⟨r,0,qu⟩),Z U d] W λy w'=>y= rk (rh e.cells)/\bu r lb cap T k W w':=λW R=>oo d W R v;have rl:ca (∀W,Rd r lb cap T k W->zP 172 #[rb (qt ⟨r,0,qu⟩),qT xR] W (re (cO z xR))):=λW R=>aW _ W R hz;rw[jd hs (by decide)] at rl;unfold xR at rl;unfold Ex.cells at K⊢;have sX:=zH K;have hst:∀(w:World)(c:cG bw),c.size=7->(cU ⟨w.heap.size,0,qu⟩ [Z U e.kind,Z U e.n,qT e.nm,qT ⟨#[]⟩,ra qu 0 0,Z U e.ln,Z U e.cl] 0).run ac (w.alloc (rj c 313))= .ok () (w.alloc (rj #[Z U e.kind,Z U e.n,qT e.nm,qT ⟨#[]⟩,ra qu 0 0,Z U e.ln,Z U e.cl] 313)):=λw c hc=>
  cf (P:=ac) w 313 c #[Z U e.kind,Z U e.n,qT e.nm,qT ⟨#[]⟩,ra qu 0 0,Z U e.ln,Z U e.cl] (by show _=qt 7;kernel_rfl) hc (by simp[br])
 have sY:=zH hst;have tn:r<N:=by rw[<-f];exact h.rlt
 have te:ca (lb<N):=by unfold ca;rw[<-f];exact h.lt
 have tf:=zH q;have th:=zH A;have rS:=zH rB;have ti:=zH rI;have H1:=zH D;clear h v hz hs q A rB rI rK D ht rL J rN K hst;go_enter func276,ntmps276
 go_upto_region 8 with(go_at_call 260;rw[tf.out];refine sT.out.mono ?_;rintro e w2 ⟨rfl,se⟩;have rm:=zH se;clear se)
 have H2:=zH (H1.out.grow rm.out);have sf:=zH ((rm.out.block N (by rw[rS.out];omega)).trans ti.out)
 go_upto_region 9 with(go_at_call 278;refine(sX.out w2 H2.out).mono ?_;rintro e w3 ⟨rfl,sk⟩;have rn:=zH sk;have tj:=sY.out w3;clear sk)
 clear tj;obtain⟨G,hG⟩:=zE w3.heap.size;obtain⟨W4,u⟩:=zE (w3.alloc (rj #[Z U e.kind,Z U e.n,qT e.nm,qT ⟨#[]⟩,ra qu 0 0,Z U e.ln,Z U e.cl] 313));rw[hG,u];have rr:=iF u;have sn:aq w.heap.size w w2:=by rw[f];exact th.out.trans (rm.out.mono (by rw[rS.out];omega))
 have sq:bu r lb cap T k w W4:=(bu.grown sn rn.out).grow rr;have sr:W4.heap[G]?=qt (rj #[Z U e.kind,Z U e.n,qT e.nm,qT ⟨#[]⟩,ra qu 0 0,Z U e.ln,Z U e.cl] 313 (0,0)):=by rw[<-u,<-hG];exact alloc_at _ _
 have sx:=(rr.block N (aa (rn.out.2.heap sf.out (by omega)))).trans (rn.out.2.heap sf.out (by omega));have sy:=zH sq;have sB:=zH sr;have sE:=zH sx;clear hG u rr sn sq sr sx
 go_loopw [9] (λ_ wr=>wr=W4) (λ_ _=>0)
 case atStart=>rfl
 case round=>
  obtain rfl:=hrel
  go_upto_region 14 with(go_at_call 172;refine(rl.out _ sy.out.1).mono ?_;rintro e w5 ⟨rfl,sL⟩;have rv:=zH sL;clear sL)
  have sR:=(rv.out.block G (aa sB.out)).trans sB.out;have rx:=(rv.out.block N (aa sE.out)).trans sE.out;have tl:=zH rx;obtain⟨⟨g0,g1,g2,g3,g4,g5,g6⟩,_,tp⟩:=dC sR;obtain⟨⟨p0,p1,p2,p3,p4,p5,p6⟩,⟨o0,o1,o2,o3,o4,o5,o6⟩,tr⟩:=dC rx;clear sR rx;go_wp2;(try simp only[cL,Exit.then]);refine da (dv (P:=ac) rfl _ _ N 313 _ (0,0) _ rfl (fq tl.out) gn rfl (by kernel_rfl)) rfl ?_;have hM:bu r lb cap T k w w5:=sy.out.grow rv.out;exact⟨rfl,hM.1.ext (bM _ _ _ _ _ _ _ _ _) (by omega) (by have:=te.out;omega),hM.2.trans (bM _ _ _ _ _ _ _ _ _) (λk hk=> .inr (by omega))⟩
def opsOf (q:cd):bm aw:=match q with
 |0=>[⟨#[42]⟩,⟨#[47]⟩,⟨#[37]⟩]
 |1=>[⟨#[43]⟩,⟨#[45]⟩]
 |_=>[⟨#[61,61]⟩,⟨#[33,61]⟩,⟨#[60]⟩,⟨#[60,61]⟩,⟨#[62]⟩,⟨#[62,61]⟩]
def vU:cG bw:=#[qT ⟨#[42]⟩,qT ⟨#[47]⟩,qT ⟨#[37]⟩]
def zn:cG bw:=#[qT ⟨#[43]⟩,qT ⟨#[45]⟩]
def Bn:cG bw:=#[qT ⟨#[61,61]⟩,qT ⟨#[33,61]⟩,qT ⟨#[60]⟩,qT ⟨#[60,61]⟩,qT ⟨#[62]⟩,qT ⟨#[62,61]⟩]
def ng (w:World)(N:cd):World:=
 ((((w.alloc (rj #[Z U 0,Z U 0,qT ⟨#[]⟩,qT ⟨#[]⟩,ra qu 0 0,Z U 0,Z U 0] 313)).alloc (rj #[qT ⟨#[42]⟩,qT ⟨#[47]⟩,qT ⟨#[37]⟩] 9)).alloc (rj #[qT ⟨#[43]⟩,qT ⟨#[45]⟩] 9)).alloc
  (rj #[qT ⟨#[61,61]⟩,qT ⟨#[33,61]⟩,qT ⟨#[60]⟩,qT ⟨#[60,61]⟩,qT ⟨#[62]⟩,qT ⟨#[62,61]⟩] 9)).alloc (rj #[ra (qt ⟨N+1,0,qu⟩) 3 3,ra (qt ⟨N+2,0,qu⟩) 2 2,ra (qt ⟨N+3,0,qu⟩) 6 6] 223)
structure uq (w W:World)(N:cd):Prop where
 low:aq N w W
 size:W.heap.size=N+5
 res:W.heap[N]?=qt (rj #[Z U 0,Z U 0,qT ⟨#[]⟩,qT ⟨#[]⟩,ra qu 0 0,Z U 0,Z U 0] 313 (0,0))
 r0:W.heap[N+1]?=qt (rj vU 9 (0,0))
 r1:W.heap[N+2]?=qt (rj zn 9 (0,0))
 r2:W.heap[N+3]?=qt (rj Bn 9 (0,0))
 out:W.heap[N+4]?=qt (rj #[ra (qt ⟨N+1,0,qu⟩) 3 3,ra (qt ⟨N+2,0,qu⟩) 2 2,ra (qt ⟨N+3,0,qu⟩) 6 6] 223 (0,0))
theorem oV (w:World)(N:cd)(d:w.heap.size=N):uq w (ng w N) N:=by
 unfold ng;refine⟨(((((an N w).alloc (by omega) _).alloc (by simp<;>omega) _).alloc (by simp<;>omega) _).alloc (by simp<;>omega) _).alloc (by simp<;>omega) _,by simp[d], ?_, ?_, ?_, ?_, ?_⟩
 ·refine(bt _ _ N (by simp;omega)).trans ((bt _ _ N (by simp;omega)).trans ((bt _ _ N (by simp;omega)).trans ((bt _ _ N (by simp;omega)).trans ?_)))
  rw[<-d];exact alloc_at _ _
 ·refine(bt _ _ (N+1) (by simp;omega)).trans ((bt _ _ (N+1) (by simp;omega)).trans ((bt _ _ (N+1) (by simp;omega)).trans ?_))
  have:=alloc_at (w.alloc (rj #[Z U 0,Z U 0,qT ⟨#[]⟩,qT ⟨#[]⟩,ra qu 0 0,Z U 0,Z U 0] 313)) (rj vU 9);rw[World.size_alloc,d] at this;exact this
 ·refine(bt _ _ (N+2) (by simp;omega)).trans ((bt _ _ (N+2) (by simp;omega)).trans ?_)
  have:=alloc_at ((w.alloc (rj #[Z U 0,Z U 0,qT ⟨#[]⟩,qT ⟨#[]⟩,ra qu 0 0,Z U 0,Z U 0] 313)).alloc (rj vU 9)) (rj zn 9);rw[World.size_alloc,World.size_alloc,d] at this;exact this
 ·refine(bt _ _ (N+3) (by simp;omega)).trans ?_
  have:=alloc_at (((w.alloc (rj #[Z U 0,Z U 0,qT ⟨#[]⟩,qT ⟨#[]⟩,ra qu 0 0,Z U 0,Z U 0] 313)).alloc (rj vU 9)).alloc (rj zn 9)) (rj Bn 9);rw[World.size_alloc,World.size_alloc,World.size_alloc,d] at this;exact this
 ·have:=alloc_at ((((w.alloc (rj #[Z U 0,Z U 0,qT ⟨#[]⟩,qT ⟨#[]⟩,ra qu 0 0,Z U 0,Z U 0] 313)).alloc (rj vU 9)).alloc (rj zn 9)).alloc (rj Bn 9)) (rj #[ra (qt ⟨N+1,0,qu⟩) 3 3,ra (qt ⟨N+2,0,qu⟩) 2 2,ra (qt ⟨N+3,0,qu⟩) 6 6] 223)
  rw[World.size_alloc,World.size_alloc,World.size_alloc,World.size_alloc,d] at this;exact this
theorem xS {r lb cap:cd}{T:bm Tok}{i k:cd}{e:Ex}{z:Tok}(d:cj)(w:World)(h:Rd r lb cap T i w)(A:dZ T i e k)(D:T[k]?=qt z)(G:cO z di=qv):
  ft ac 272 #[rb (qt ⟨r,0,qu⟩),Z U (-1),Z U d] w λen w'=>en= rk (rh e.cells)/\bu r lb cap T k w w':=by
 obtain⟨N,f⟩:=zE w.heap.size;have o:=oV w N f;obtain⟨J,q⟩:=zE (ng w N);rw[q] at o;unfold ng at q;have K:=h.grow (show aq w.heap.size w J by rw[f];exact o.low);have u:=ry d J K A D G;unfold Ex.cells at u⊢;have rl:=zH u;have rx:r<N:=by rw[<-f];exact h.rlt
 have rm:ca (lb<N):=by unfold ca;rw[<-f];exact h.lt
 have rn:=zH q;have R:=zH o;clear h A D G q o K u;go_enter func272,ntmps272
 go_upto_region 2 with(fail)
 rw[rn.out]
 go_wp2_with (go_at_call 276;refine rl.out.mono ?_;rintro e w3 ⟨rfl,v⟩;have y:=v.2.heap R.out.res (by omega);have rr:=zH v;have rv:=zH y;obtain⟨⟨p0,p1,p2,p3,p4,p5,p6⟩,⟨o0,o1,o2,o3,o4,o5,o6⟩,rB⟩:=dC y;clear v y)
 (try simp only[cL,Exit.then]);refine da (dv (P:=ac) rfl _ _ N 313 _ (0,0) _ rfl (fq rv.out) gn rfl (by kernel_rfl)) rfl ?_;have hM:bu r lb cap T k w w3:=bu.grown (by rw[f];exact R.out.low) rr.out;exact⟨rfl,hM.1.ext (bM _ _ _ _ _ _ _ _ _) (by omega) (by have:=rm.out;omega),hM.2.trans (bM _ _ _ _ _ _ _ _ _) (λk hk=> .inr (by omega))⟩
theorem gU {W:World}{b:cd}{l:bm aw}{d:cG bw}{t:ge}(h:W.heap[b]?=qt (rj d t (0,0)))(f:d=(l.map em).toArray):mY W b l:=λk x o=>by
 rw[bh _ _ _ _ _ _ h,f];simp[o]
theorem Aa {w W:World}{N:cd}(h:uq w W N):∀(q:cd),q<3->mY W (N+1+q) (opsOf q)
 |0,_=>gU h.r0 rfl
 |1,_=>gU h.r1 rfl
 |2,_=>gU h.r2 rfl
theorem Ab {w W:World}{N:cd}(h:uq w W N):∀(q:cd),q<3->W.cell? ⟨N+4,q,qu⟩=qt (ra (qt ⟨N+1+q,0,qu⟩) (opsOf q).length (opsOf q).length)
 |0,_=>by rw[bh _ _ _ _ _ _ h.out];rfl
 |1,_=>by rw[bh _ _ _ _ _ _ h.out];rfl
 |2,_=>by rw[bh _ _ _ _ _ _ h.out];rfl
theorem DJ {z:Tok}(d:cO z di=qv):∀(q:cd),q<3->kM z (opsOf q)=qS
 |0,_=>kE d (by decide)
 |1,_=>kE d (by decide)
 |2,_=>kE d (by decide)
theorem Cz:∀(q:cd),q<3->(opsOf q).length<=20
 |0,_=>by decide
 |1,_=>by decide
 |2,_=>by decide
theorem mY.ext {W W':World}{b:cd}{l:bm aw}{M:cd->Prop}(h:mY W b l)(d:Ext M W W')(f:b<W.heap.size)(o:¬M b):mY W' b l:=λk x q=>by
 rw[d.cell (a:=⟨b,k,qu⟩) f o];exact h k x q
theorem ut {r lb cap:cd}{T:bm Tok}{i k:cd}{e:Ex}{z:Tok}(q:cd)(A:q<3)(d:cj)(w:World)(h:Rd r lb cap T i w)(hl:dZ T i e k)(hz:T[k]?=qt z)(hs:cO z di=qv)
  (rB:∀W,Rd r lb cap T i W->ft ac 272 #[rb (qt ⟨r,0,qu⟩),Z U ((q:cj)-1),Z U d] W λR w'=>R= rk (rh e.cells)/\bu r lb cap T k W w'):
  ft ac 272 #[rb (qt ⟨r,0,qu⟩),Z U (q:cj),Z U d] w λR w'=>R= rk (rh e.cells)/\bu r lb cap T k w w':=by
 obtain⟨N,y⟩:=zE w.heap.size;have f:=oV w N y;obtain⟨v,D⟩:=zE (ng w N);rw[D] at f;unfold ng at D;have h1:=h.grow (show aq w.heap.size w v by rw[y];exact f.low);have rl:=rB v h1;have rm:∀W,Rd r lb cap T k W->Ext (·=r) v W->zP 260 #[rb (qt ⟨r,0,qu⟩),ra (qt ⟨N+1+q,0,qu⟩) (opsOf q).length (opsOf q).length] W (re qS):=by
  intro W hW J;have tl:=J.size;have sB:=h.rlt;have sE:=f.size;have sL:=(Aa f q A).ext J (by omega) (by omega);have:=gu (N+1+q) (opsOf q).length (opsOf q) W hW hz (Cz q A) (by omega) sL
  rwa [DJ hs q A] at this
 have rn:∀W,Ext (·=r) v W->W.cell? ⟨N+4,q,qu⟩=qt (ra (qt ⟨N+1+q,0,qu⟩) (opsOf q).length (opsOf q).length):=by
  intro W J;have sB:=h.rlt;have sE:=f.size;rw[J.cell (a:=⟨N+4,q,qu⟩) (by show N+4<_;omega) (by show¬N+4=r;omega)];exact Ab f q A
 obtain⟨OL,rI⟩:=zE ((opsOf q).length);rw[rI] at rm rn;unfold Ex.cells at rl⊢;have sR:=zH rl;have rK:=zH rm;have rL:=zH rn;have hst:∀(w:World)(c:cG bw),c.size=7->(cU ⟨w.heap.size,0,qu⟩ [Z U e.kind,Z U e.n,qT e.nm,qT ⟨#[]⟩,ra qu 0 0,Z U e.ln,Z U e.cl] 0).run ac (w.alloc (rj c 313))= .ok () (w.alloc (rj #[Z U e.kind,Z U e.n,qT e.nm,qT ⟨#[]⟩,ra qu 0 0,Z U e.ln,Z U e.cl] 313)):=λw c hc=>
  cf (P:=ac) w 313 c #[Z U e.kind,Z U e.n,qT e.nm,qT ⟨#[]⟩,ra qu 0 0,Z U e.ln,Z U e.cl] (by show _=qt 7;kernel_rfl) hc (by simp[br])
 have sT:=zH hst;have tm:r<N:=by rw[<-y];exact h.rlt
 have sX:ca (lb<N):=by unfold ca;rw[<-y];exact h.lt
 have sY:=zH D;have rr:=zH f;have tn:(q:cj)<3:=by omega
 clear h hl hz hs D f h1 rl rm rn hst rB rI;go_enter func272,ntmps272
 go_upto_region 2 with(fail)
 rw[sY.out]
 go_upto_region 5 with(go_at_call 272;refine sR.out.mono ?_;rintro e w3 ⟨rfl,rN⟩;have te:=zH rN;have tf:=sT.out w3;clear rN)
 clear tf;obtain⟨G,hG⟩:=zE w3.heap.size;obtain⟨o,K⟩:=zE (w3.alloc (rj #[Z U e.kind,Z U e.n,qT e.nm,qT ⟨#[]⟩,ra qu 0 0,Z U e.ln,Z U e.cl] 313));rw[hG,K];have rS:=iF K;have se:aq w.heap.size w v:=by rw[y];exact rr.out.low
 have u:bu r lb cap T k v o:=te.out.grow rS;have sf:bu r lb cap T k w o:=bu.grown se u;have sk:o.heap[G]?=qt (rj #[Z U e.kind,Z U e.n,qT e.nm,qT ⟨#[]⟩,ra qu 0 0,Z U e.ln,Z U e.cl] 313 (0,0)):=by rw[<-K,<-hG];exact alloc_at _ _
 have sn:=u.2.heap rr.out.res (by omega);have th:=zH (rK.out o u.1 u.2);have tp:=rL.out o u.2;have ti:=zH sf;have sq:=zH sk;have sr:=zH sn;have tr:N+4<o.heap.size:=aa (u.2.heap rr.out.out (by omega));clear hG K rS se u sf sk sn rK rL
 go_loopw [9] (λ_ wr=>wr=o) (λ_ _=>0)
 case atStart=>rfl
 case round=>
  obtain rfl:=hrel
  go_upto_region 11 with(go_at_call 260;refine th.out.mono ?_;rintro e w5 ⟨rfl,sx⟩;have rv:=zH sx;clear sx)
  have sy:=(rv.out.block G (aa sq.out)).trans sq.out;have rx:=(rv.out.block N (aa sr.out)).trans sr.out;have tj:=zH rx;obtain⟨⟨g0,g1,g2,g3,g4,g5,g6⟩,_,tt⟩:=dC sy;obtain⟨⟨p0,p1,p2,p3,p4,p5,p6⟩,⟨o0,o1,o2,o3,o4,o5,o6⟩,tv⟩:=dC rx;clear sy rx;go_wp2;(try simp only[cL,Exit.then]);refine da (dv (P:=ac) rfl _ _ N 313 _ (0,0) _ rfl (fq tj.out) gn rfl (by kernel_rfl)) rfl ?_;have hM:bu r lb cap T k w w5:=ti.out.grow rv.out;exact⟨rfl,hM.1.ext (bM _ _ _ _ _ _ _ _ _) (by omega) (by have:=sX.out;omega),hM.2.trans (bM _ _ _ _ _ _ _ _ _) (λk hk=> .inr (by omega))⟩
theorem kU {r lb cap:cd}{T:bm Tok}{i k:cd}{e:Ex}{z:Tok}(d:cj)(f:dZ T i e k)(o:T[k]?=qt z)(u:cO z di=qv):
  ∀(q:cd)(_:q<=3) (w:World) (_:Rd r lb cap T i w),ft ac 272 #[rb (qt ⟨r,0,qu⟩),Z U ((q:cj)-1),Z U d] w λv w'=>v= rk (rh e.cells)/\bu r lb cap T k w w'
 |0,_,w,h=>xS d w h f o u
 |q+1,A,w,h=>by
  have:=ut q (by omega) d w h f o u (λW y=>kU d f o u q (by omega) W y);rw[show((q+1:cd):cj)-1=(q:cj) by omega];exact this
theorem lX {r lb cap:cd}{T:bm Tok}{i k:cd}{e:Ex}{z:Tok}(d:cj)(w:World)(h:Rd r lb cap T i w)(A:dZ T i e k)(D:T[k]?=qt z)(G:cO z di=qv):
  ft ac 263 #[rb (qt ⟨r,0,qu⟩),Z U d] w λen w'=>en= rk (rh e.cells)/\bu r lb cap T k w w':=by
 obtain⟨N,f⟩:=zE w.heap.size;obtain⟨J,o⟩:=zE (w.alloc (rj #[Z U 0,Z U 0,qT ⟨#[]⟩,qT ⟨#[]⟩,ra qu 0 0,Z U 0,Z U 0] 313));have u:=gQ o f;have K:J.heap[N]?=qt (rj #[Z U 0,Z U 0,qT ⟨#[]⟩,qT ⟨#[]⟩,ra qu 0 0,Z U 0,Z U 0] 313 (0,0)):=by rw[<-o,<-f];exact alloc_at _ _
 have R:=h.grow (by rw[f];exact u);have q:=kU d A D G 3 (bp _) J R;rw[show((3:cd):cj)-1=2 from rfl] at q;unfold Ex.cells at q⊢;have rl:=zH q;have rI:r<N:=by rw[<-f];exact h.rlt
 have rm:ca (lb<N):=by unfold ca;rw[<-f];exact h.lt
 have rn:=zH o;have rr:=zH u;have rv:=zH K;clear h A D G o u K R q;go_enter func263,ntmps263
 go_wp2_with (go_at_call 272;rw[rn.out];refine rl.out.mono ?_;rintro e w3 ⟨rfl,v⟩;have y:=v.2.heap rv.out (by omega);have rx:=zH v;have rB:=zH y;obtain⟨⟨p0,p1,p2,p3,p4,p5,p6⟩,⟨o0,o1,o2,o3,o4,o5,o6⟩,rK⟩:=dC y;clear v y)
 (try simp only[cL,Exit.then]);refine da (dv (P:=ac) rfl _ _ N 313 _ (0,0) _ rfl (fq rB.out) gn rfl (by kernel_rfl)) rfl ?_;have hM:bu r lb cap T k w w3:=bu.grown (by rw[f];exact rr.out) rx.out;exact⟨rfl,hM.1.ext (bM _ _ _ _ _ _ _ _ _) (by omega) (by have:=rm.out;omega),hM.2.trans (bM _ _ _ _ _ _ _ _ _) (λk hk=> .inr (by omega))⟩
structure Sm where
 kind:cj
 ty:Ty
 nm:aw
 E:bw
 ln:cj
 cl:cj
 es:bm Ex
def Sm.cells (s:Sm):cG bw:=#[Z U s.kind,re s.ty.1,qT s.ty.2,qT s.nm,s.E,ra qu 0 0,ra qu 0 0,Z U s.ln,Z U s.cl]
def EH (e:Ex):bm bw:=e.cells.toList
def Sm.inn (B:cd)(w:World)(s:Sm):Prop:=
 (s.es=[]/\s.E= ra qu 0 0)\/∃g cap,s.E= ra (qt ⟨g,0,qu⟩) s.es.length cap/\B<=g/\w.heap[g]?=qt (rj (s.es.flatMap EH).toArray 313 (0,0))
theorem Sm.inn.ext {B:cd}{w w':World}{s:Sm}{M:cd->Prop}(h:s.inn B w)(o:Ext M w w')(q:∀k,B<=k->k<w.heap.size->¬M k):s.inn B w':=by
 rcases h with h|⟨g,cap,u,d,f⟩
 ·exact .inl h
 ·exact .inr ⟨g,cap,u,d,o.heap f (q g d (aa f))⟩
theorem Sm.inn.mono {B d:cd}{w:World}{s:Sm}(h:s.inn B w)(f:d<=B):s.inn d w:=by
 rcases h with h|⟨g,cap,o,q,u⟩
 ·exact .inl h
 ·exact .inr ⟨g,cap,o,cE f q,u⟩
structure nP where
 kind:cj
 ty:Ty
 nm:aw
 es:bm Ex
def Sm.shp (s:Sm):nP:=⟨s.kind,s.ty,s.nm,s.es⟩
def oI:aw:=⟨#[114,101,116,117,114,110]⟩
def zo:aw:=⟨#[102,114,101,101]⟩
def lY:aw:=⟨#[41]⟩
def Ec:aw:=⟨#[61]⟩
def gK (r lb cap:cd)(T:bm Tok)(w:World)(d:nP)(k:cd)(e:Ending)(w':World):Prop:=
 ∃s:Sm,e= rk (rh s.cells)/\s.shp=d/\s.inn w.heap.size w'/\bu r lb cap T k w w'
theorem oW (l:bm UInt8):(⟨l.toArray⟩:aw).toList=l:=by rw[mN]
theorem uw {t:Tok}{s:aw}(h:cO t s=qv):t.text=s/\(t.kind=2\/t.kind=4):=by
 unfold cO at h;rw[eK,gx] at h;exact⟨eq_of_beq h.2,by rcases h.1 with h|h;exact .inl (eq_of_beq h);exact .inr (eq_of_beq h)⟩
theorem uy {r lb cap:cd}{T:bm Tok}{i k:cd}{t z:Tok}{e:Ex}(ln cl d:cj)(w:World)(h:Rd r lb cap T i w)(ht:T[i]?=qt t)(A:cO t oI=qv)(hl:dZ T (i+1) e k)(hz:T[k]?=qt z)(hs:cO z di=qv):
  ft ac 261 #[rb (qt ⟨r,0,qu⟩),rh #[Z U 0,re qS,qT ⟨#[]⟩,qT ⟨#[]⟩,ra qu 0 0,ra qu 0 0,ra qu 0 0,Z U ln,Z U cl],Z U d] w (gK r lb cap T w ⟨8,bq,⟨#[]⟩,[e]⟩ (k+1)):=by
 obtain⟨N,o⟩:=zE w.heap.size;obtain⟨W1,u⟩:=zE ((w.alloc (rj #[Z U 0,re qS,qT ⟨#[]⟩,qT ⟨#[]⟩,ra qu 0 0,ra qu 0 0,ra qu 0 0,Z U ln,Z U cl] 282)).alloc (rj #[Z U 0,re qS,qT ⟨#[]⟩,qT ⟨#[]⟩,ra qu 0 0,ra qu 0 0,ra qu 0 0,Z U 0,Z U 0] 282));have rx:=qQ u o;have sq:W1.heap.size=N+2:=by rw[<-u];simp[o]
 have sr:=vN u o;have sx:=xI u o;have h1:=h.grow (by rw[o];exact rx);have sy:=zH (bi W1 h1 ht);have rB:∀W,Rd r lb cap T (i+1) W->ft ac 263 #[rb (qt ⟨r,0,qu⟩),Z U d] W λen w'=>en= rk (rh e.cells)/\bu r lb cap T k W w':=λW hW=>lX d W hW hl hz hs;unfold Ex.cells at rB;have tt:=zH rB;have sB:ca (∀W,Rd r lb cap T k W->ft ac 207 #[rb (qt ⟨r,0,qu⟩),qT di] W λe w'=>e= rk (.tuple #[])/\bu r lb cap T (k+1) W w'):=λW hW=>aT di W hW hz hs;unfold di at sB;obtain⟨rI,_⟩:=uw A;obtain⟨f,v⟩:=zE t.text;have hst:∀(w:World)(c:cG bw),c.size=5->(cU ⟨w.heap.size,0,qu⟩ [Z U t.kind,qT f,Z U t.n,Z U t.ln,Z U t.cl] 0).run ac (w.alloc (rj c 263))= .ok () (w.alloc (rj #[Z U t.kind,qT f,Z U t.n,Z U t.ln,Z U t.cl] 263)):=λw c hc=>
  cf (P:=ac) w 263 c #[Z U t.kind,qT f,Z U t.n,Z U t.ln,Z U t.cl] (by show _=qt 5;kernel_rfl) hc (by simp[br])
 have tv:=zH hst;simp only[Tok.cells,v] at sy;rw[v] at rI;have y:f.toList=[114,101,116,117,114,110]:=by rw[rI];exact oW [114,101,116,117,114,110]
 have x1:(f.toList==[105,102])=qS:=by rw[y];rfl
 have x2:(f.toList==[119,104,105,108,101])=qS:=by rw[y];rfl
 have x3:(f.toList==[98,114,101,97,107])=qS:=by rw[y];rfl
 have x4:(f.toList==[99,111,110,116,105,110,117,101])=qS:=by rw[y];rfl
 have x5:(f.toList==[114,101,116,117,114,110])=qv:=by rw[y];rfl
 have ur:i<T.length:=(bl.1 ht).1;have hT:=h.short;have uv:r<N:=by rw[<-o];exact h.rlt
 have rK:ca (lb<N):=by unfold ca;rw[<-o];exact h.lt
 have tz:=zH u;have tA:=zH rx;have rm:=zH sq;have tB:=zH sr;have tD:=zH sx;have H1:=zH h1;clear h ht A hl hz hs u rx sq sr sx h1 rB rI v hst y;go_enter func261,ntmps261
 go_upto_region 2 with(go_at_call 170;rw[tz.out];refine sy.out.mono ?_;rintro e w2 ⟨rfl,sE⟩;have tE:=tv.out w2;have sL:=zH sE;clear sE)
 clear tE;obtain⟨G,hG⟩:=zE w2.heap.size;obtain⟨q,rn⟩:=zE (w2.alloc (rj #[Z U t.kind,qT f,Z U t.n,Z U t.ln,Z U t.cl] 263));rw[hG,rn];have D:=zD rn sL;have ux:N+2<=G:=by rw[<-hG,<-rm.out];exact sL.out.size
 have sR:q.heap[G]?=qt (rj #[Z U t.kind,qT f,Z U t.n,Z U t.ln,Z U t.cl] 263 (0,0)):=by rw[<-rn,<-hG];exact alloc_at _ _
 obtain⟨⟨g0,g1,g2,g3,g4⟩,_,va⟩:=d9 sR;have rL:=(D.block N (by have:=rm.out;omega)).trans tB.out;have sT:=(D.block (N+1) (by have:=rm.out;omega)).trans tD.out;obtain⟨⟨a0,a1,a2,a3,a4,a5,a6,a7,a8⟩,⟨b0,b1,b2,b3,b4,b5,b6,b7,b8⟩,tG⟩:=eH rL;have h3:=H1.out.grow D;obtain⟨c0,c1,c3,f1,hr⟩:=h3.cells;have tM:=zH D;have tP:=zH rL;have tR:=zH sT;have H3:=zH h3;clear hG rn D sR rL sT h3
 go_upto_region 23 with(fail)
 obtain⟨J,K⟩:=zE ((q.setCell ⟨r,1,qu⟩ (Z U ((i:cj)+1))).setCell ⟨N,0,qu⟩ (Z U 8));rw[K];have sX:bu r lb cap T (i+1) w J:=by
  have a:bu r lb cap T (i+1) q (q.setCell ⟨r,1,qu⟩ (Z U ((i:cj)+1))):=⟨H3.out.step,Ext.set1 q r 1 _⟩
  have v:Ext (·=N) (q.setCell ⟨r,1,qu⟩ (Z U ((i:cj)+1))) J:=by rw[<-K];exact af (Ext.refl _ _) _
  have tS:aq w.heap.size w q:=by rw[o];exact tA.out.trans (tM.out.mono (by rw[rm.out];omega))
  exact⟨a.1.ext v (by omega) (by have:=rK.out;omega),(bu.grown tS a).2.trans v (λk A=> .inr (by omega))⟩
 have sY:J.heap[N]?=qt (rj #[Z U 8,re qS,qT ⟨#[]⟩,qT ⟨#[]⟩,ra qu 0 0,ra qu 0 0,ra qu 0 0,Z U ln,Z U cl] 282 (0,0)):=by
  rw[<-K];exact aE _ N 0 _ _ _ ((cQ _ _ _ N (by show N≠r;omega)).trans tP.out)
 have te:J.heap[N+1]?=qt (rj #[Z U 0,re qS,qT ⟨#[]⟩,qT ⟨#[]⟩,ra qu 0 0,ra qu 0 0,ra qu 0 0,Z U 0,Z U 0] 282 (0,0)):=by
  rw[<-K];exact(cQ _ _ _ (N+1) (by show N+1≠N;omega)).trans ((cQ _ _ _ (N+1) (by show N+1≠r;omega)).trans tR.out)
 have tf:=zH sX;have tU:=zH sY;have th:=zH te;clear K sX sY te a0 a1 a2 a3 a4 a5 a6 a7 a8 b0 b1 b2 b3 b4 b5 b6 b7 b8 c0 c1 c3 f1 hr g0 g1 g2 g3 g4 tG
 go_upto_region 34 with(go_at_call 263;refine(tt.out J tf.out.1).mono ?_;rintro e w5 ⟨rfl,rN⟩;have rS:=zH rN;have se:=rN.2.heap tU.out (by omega);have tW:=zH se;obtain⟨⟨a0,a1,a2,a3,a4,a5,a6,a7,a8⟩,⟨b0,b1,b2,b3,b4,b5,b6,b7,b8⟩,ua⟩:=eH se;clear rN se)
 obtain⟨Q,hQ⟩:=zE w5.heap.size;rw[hQ];obtain⟨R,rl⟩:=zE ((w5.setCell ⟨N,4,qu⟩ (ra (qt ⟨Q,0,qu⟩) 1 1)).alloc (rj #[Z U e.kind,Z U e.n,qT e.nm,qT ⟨#[]⟩,ra qu 0 0,Z U e.ln,Z U e.cl] 313));rw[rl];have rr:Ext (·=N) w5 R:=by rw[<-rl];exact(af (Ext.refl _ _) _).alloc _
 have vc:N+1<Q:=by rw[<-hQ];exact aa (rS.out.2.heap th.out (by omega))
 have ti:R.heap[Q]?=qt (rj #[Z U e.kind,Z U e.n,qT e.nm,qT ⟨#[]⟩,ra qu 0 0,Z U e.ln,Z U e.cl] 313 (0,0)):=by
  have:=alloc_at (w5.setCell ⟨N,4,qu⟩ (ra (qt ⟨Q,0,qu⟩) 1 1)) (rj #[Z U e.kind,Z U e.n,qT e.nm,qT ⟨#[]⟩,ra qu 0 0,Z U e.ln,Z U e.cl] 313);rw[World.size_setCell,hQ,rl] at this;exact this
 have tj:R.heap[N]?=qt (rj #[Z U 8,re qS,qT ⟨#[]⟩,qT ⟨#[]⟩,ra (qt ⟨Q,0,qu⟩) 1 1,ra qu 0 0,ra qu 0 0,Z U ln,Z U cl] 282 (0,0)):=by
  rw[<-rl];exact(bt _ _ N (by rw[World.size_setCell];omega)).trans (aE _ N 4 _ _ _ tW.out)
 have tl:=rr.heap (rS.out.2.heap th.out (by omega)) (show¬N+1=N by omega);have sf:=tf.out.trans rS.out;have tm:bu r lb cap T k w R:=⟨sf.1.ext rr (by omega) (by have:=rK.out;omega),sf.2.trans rr (λk A=> .inr (by omega))⟩
 have tn:=zH tm;have ub:=zH ti;have uc:=zH tj;have ud:=zH tl;clear hQ rl rr ti tj tl sf tm a0 a1 a2 a3 a4 a5 a6 a7 a8 b0 b1 b2 b3 b4 b5 b6 b7 b8 ua
 go_wp2_with (go_at_call 207;refine(sB.out R tn.out.1).mono ?_;rintro e w7 ⟨rfl,rv⟩;have tp:=zH rv;have tr:=rv.2.heap uc.out (by omega);have sk:=rv.2.heap ud.out (by omega);have ue:=zH sk;obtain⟨⟨a0,a1,a2,a3,a4,a5,a6,a7,a8⟩,⟨b0,b1,b2,b3,b4,b5,b6,b7,b8⟩,vd⟩:=eH tr;obtain⟨⟨p0,p1,p2,p3,p4,p5,p6,p7,p8⟩,⟨q0,q1,q2,q3,q4,q5,q6,q7,q8⟩,vf⟩:=eH sk;clear rv tr sk)
 (try simp only[cL,Exit.then]);refine da (dv (P:=ac) rfl _ _ (N+1) 282 _ (0,0) _ rfl (jT ue.out) la rfl (by kernel_rfl)) rfl ?_;have hM:=tn.out.trans tp.out;have sn:=jU w7 (N+1) (Z U 8) (re qS) (qT ⟨#[]⟩) (qT ⟨#[]⟩) (ra (qt ⟨Q,0,qu⟩) 1 1) (ra qu 0 0) (ra qu 0 0) (Z U ln) (Z U cl);refine⟨⟨8,bq,⟨#[]⟩,ra (qt ⟨Q,0,qu⟩) 1 1,ln,cl,[e]⟩,rfl,rfl,.inr ⟨Q,1,rfl,by omega, ?_⟩,hM.1.ext sn (by omega) (by have:=rK.out;omega),hM.2.trans sn (λk A=> .inr (by omega))⟩;exact sn.heap (tp.out.2.heap ub.out (by omega)) (by omega)
theorem rz {r lb cap:cd}{T:bm Tok}{i:cd}{t u x v z:Tok}(ln cl d:cj)(w:World)(h:Rd r lb cap T i w)(ht:T[i]?=qt t)(R:cO t zo=qv)(hu:T[i+1]?=qt u)(sr:cO u dY=qv)(sx:T[i+2]?=qt x)(sy:x.kind=1)(hv:T[i+3]?=qt v)(sB:cO v lY=qv)(hz:T[i+4]?=qt z)(hs:cO z di=qv):
  ft ac 261 #[rb (qt ⟨r,0,qu⟩),rh #[Z U 0,re qS,qT ⟨#[]⟩,qT ⟨#[]⟩,ra qu 0 0,ra qu 0 0,ra qu 0 0,Z U ln,Z U cl],Z U d] w (gK r lb cap T w ⟨9,bq,x.text,[]⟩ (i+5)):=by
 obtain⟨N,o⟩:=zE w.heap.size;obtain⟨W1,D⟩:=zE ((w.alloc (rj #[Z U 0,re qS,qT ⟨#[]⟩,qT ⟨#[]⟩,ra qu 0 0,ra qu 0 0,ra qu 0 0,Z U ln,Z U cl] 282)).alloc (rj #[Z U 0,re qS,qT ⟨#[]⟩,qT ⟨#[]⟩,ra qu 0 0,ra qu 0 0,ra qu 0 0,Z U 0,Z U 0] 282));have rL:=qQ D o;have sE:W1.heap.size=N+2:=by rw[<-D];simp[o]
 have sL:=vN D o;have sR:=xI D o;have h1:=h.grow (by rw[o];exact rL);have sT:=zH (bi W1 h1 ht);have sX:ca (∀W,Rd r lb cap T (i+1) W->ft ac 207 #[rb (qt ⟨r,0,qu⟩),qT dY] W λe w'=>e= rk (.tuple #[])/\bu r lb cap T (i+2) W w'):=λW q=>aT dY W q hu sr;have sY:ca (∀W,Rd r lb cap T (i+3) W->ft ac 207 #[rb (qt ⟨r,0,qu⟩),qT lY] W λe w'=>e= rk (.tuple #[])/\bu r lb cap T (i+4) W w'):=λW q=>aT lY W q hv sB;have te:ca (∀W,Rd r lb cap T (i+4) W->ft ac 207 #[rb (qt ⟨r,0,qu⟩),qT di] W λe w'=>e= rk (.tuple #[])/\bu r lb cap T (i+5) W w'):=λW q=>aT di W q hz hs;have tD:ca (∀W,Rd r lb cap T (i+2) W->ft ac 208 #[rb (qt ⟨r,0,qu⟩)] W λe w'=>e= rk (.tuple #[qT x.text,rh #[Z U x.ln,Z U x.cl]])/\bu r lb cap T (i+3) W w'):=λW q=>dD W q sx sy;unfold dY at sX;unfold lY at sY;unfold di at te;obtain⟨rN,_⟩:=uw R;obtain⟨f,J⟩:=zE t.text;have hst:∀(w:World)(c:cG bw),c.size=5->(cU ⟨w.heap.size,0,qu⟩ [Z U t.kind,qT f,Z U t.n,Z U t.ln,Z U t.cl] 0).run ac (w.alloc (rj c 263))= .ok () (w.alloc (rj #[Z U t.kind,qT f,Z U t.n,Z U t.ln,Z U t.cl] 263)):=λw c hc=>
  cf (P:=ac) w 263 c #[Z U t.kind,qT f,Z U t.n,Z U t.ln,Z U t.cl] (by show _=qt 5;kernel_rfl) hc (by simp[br])
 have tE:=zH hst;simp only[Tok.cells,J] at sT;rw[J] at rN;have y:f.toList=[102,114,101,101]:=by rw[rN];exact oW [102,114,101,101]
 have x1:(f.toList==[105,102])=qS:=by rw[y];rfl
 have x2:(f.toList==[119,104,105,108,101])=qS:=by rw[y];rfl
 have x3:(f.toList==[98,114,101,97,107])=qS:=by rw[y];rfl
 have x4:(f.toList==[99,111,110,116,105,110,117,101])=qS:=by rw[y];rfl
 have x5:(f.toList==[114,101,116,117,114,110])=qS:=by rw[y];rfl
 have x6:(f.toList==[102,114,101,101])=qv:=by rw[y];rfl
 have vf:i<T.length:=(bl.1 ht).1;have hT:=h.short;have vh:r<N:=by rw[<-o];exact h.rlt
 have rS:ca (lb<N):=by unfold ca;rw[<-o];exact h.lt
 have tG:=zH D;have tM:=zH rL;have rr:=zH sE;have tP:=zH sL;have tR:=zH sR;have H1:=zH h1;clear h ht R hu sr sx sy hv sB hz hs D rL sE sL sR h1 rN J hst y;go_enter func261,ntmps261
 go_upto_region 2 with(go_at_call 170;rw[tG.out];refine sT.out.mono ?_;rintro e w2 ⟨rfl,tf⟩;have tS:=tE.out w2;have th:=zH tf;clear tf)
 clear tS;obtain⟨G,hG⟩:=zE w2.heap.size;obtain⟨A,rv⟩:=zE (w2.alloc (rj #[Z U t.kind,qT f,Z U t.n,Z U t.ln,Z U t.cl] 263));rw[hG,rv];have rl:=zD rv th;have vi:N+2<=G:=by rw[<-hG,<-rr.out];exact th.out.size
 have ti:A.heap[G]?=qt (rj #[Z U t.kind,qT f,Z U t.n,Z U t.ln,Z U t.cl] 263 (0,0)):=by rw[<-rv,<-hG];exact alloc_at _ _
 obtain⟨⟨g0,g1,g2,g3,g4⟩,_,vj⟩:=d9 ti;have se:=(rl.block N (by have:=rr.out;omega)).trans tP.out;have tj:=(rl.block (N+1) (by have:=rr.out;omega)).trans tR.out;obtain⟨⟨a0,a1,a2,a3,a4,a5,a6,a7,a8⟩,⟨b0,b1,b2,b3,b4,b5,b6,b7,b8⟩,tU⟩:=eH se;have h3:=H1.out.grow rl;obtain⟨c0,c1,c3,f1,hr⟩:=h3.cells;have tW:=zH rl;have ua:=zH se;have ub:=zH tj;have H3:=zH h3;clear hG rv rl ti se tj h3
 go_upto_region 26 with(fail)
 obtain⟨W4,rm⟩:=zE ((A.setCell ⟨r,1,qu⟩ (Z U ((i:cj)+1))).setCell ⟨N,0,qu⟩ (Z U 9));rw[rm];have tl:bu r lb cap T (i+1) w W4:=by
  have a:bu r lb cap T (i+1) A (A.setCell ⟨r,1,qu⟩ (Z U ((i:cj)+1))):=⟨H3.out.step,Ext.set1 A r 1 _⟩
  have J:Ext (·=N) (A.setCell ⟨r,1,qu⟩ (Z U ((i:cj)+1))) W4:=by rw[<-rm];exact af (Ext.refl _ _) _
  have uc:aq w.heap.size w A:=by rw[o];exact tM.out.trans (tW.out.mono (by rw[rr.out];omega))
  exact⟨a.1.ext J (by omega) (by have:=rS.out;omega),(bu.grown uc a).2.trans J (λk R=> .inr (by omega))⟩
 have tm:W4.heap[N]?=qt (rj #[Z U 9,re qS,qT ⟨#[]⟩,qT ⟨#[]⟩,ra qu 0 0,ra qu 0 0,ra qu 0 0,Z U ln,Z U cl] 282 (0,0)):=by
  rw[<-rm];exact aE _ N 0 _ _ _ ((cQ _ _ _ N (by show N≠r;omega)).trans ua.out)
 have tn:W4.heap[N+1]?=qt (rj #[Z U 0,re qS,qT ⟨#[]⟩,qT ⟨#[]⟩,ra qu 0 0,ra qu 0 0,ra qu 0 0,Z U 0,Z U 0] 282 (0,0)):=by
  rw[<-rm];exact(cQ _ _ _ (N+1) (by show N+1≠N;omega)).trans ((cQ _ _ _ (N+1) (by show N+1≠r;omega)).trans ub.out)
 have tp:=zH tl;have ud:=zH tm;have ue:=zH tn;clear rm tl tm tn a0 a1 a2 a3 a4 a5 a6 a7 a8 b0 b1 b2 b3 b4 b5 b6 b7 b8 c0 c1 c3 f1 hr g0 g1 g2 g3 g4 tU
 go_upto_region 27 with(go_at_call 207;refine(sX.out W4 tp.out.1).mono ?_;rintro e w5 ⟨rfl,tr⟩;have sf:=zH tr;clear tr)
 go_upto_region 28 with(go_at_call 208;refine(tD.out w5 sf.out.1).mono ?_;rintro e w6 ⟨rfl,sk⟩;have tt:=zH (sf.out.trans sk);have sn:=(sf.out.trans sk).2.heap ud.out (by omega);have ur:=zH sn;obtain⟨⟨a0,a1,a2,a3,a4,a5,a6,a7,a8⟩,⟨b0,b1,b2,b3,b4,b5,b6,b7,b8⟩,uv⟩:=eH sn;clear sk sn)
 obtain⟨W7,rx⟩:=zE (w6.setCell ⟨N,3,qu⟩ (qT x.text));rw[rx];have rB:Ext (·=N) w6 W7:=by rw[<-rx];exact af (Ext.refl _ _) _
 have rn:W7.heap[N]?=qt (rj #[Z U 9,re qS,qT ⟨#[]⟩,qT x.text,ra qu 0 0,ra qu 0 0,ra qu 0 0,Z U ln,Z U cl] 282 (0,0)):=by
  rw[<-rx];exact aE _ N 3 _ _ _ ur.out
 have K:=rB.heap (tt.out.2.heap ue.out (by omega)) (show¬N+1=N by omega);have sq:=tp.out.trans tt.out;have tv:bu r lb cap T (i+3) w W7:=⟨sq.1.ext rB (by omega) (by have:=rS.out;omega),sq.2.trans rB (λk R=> .inr (by omega))⟩
 have tz:=zH tv;have ux:=zH rn;have va:=zH K;clear rx rB rn K sq tv a0 a1 a2 a3 a4 a5 a6 a7 a8 b0 b1 b2 b3 b4 b5 b6 b7 b8 uv
 go_upto_region 34 with(go_at_call 207;refine(sY.out W7 tz.out.1).mono ?_;rintro e w8 ⟨rfl,tA⟩;have rI:=zH tA;clear tA)
 go_wp2_with (go_at_call 207;refine(te.out w8 rI.out.1).mono ?_;rintro e w9 ⟨rfl,rK⟩;have vc:=zH (rI.out.trans rK);have rn:=(rI.out.trans rK).2.heap ux.out (by omega);have K:=(rI.out.trans rK).2.heap va.out (by omega);have vd:=zH K;obtain⟨⟨a0,a1,a2,a3,a4,a5,a6,a7,a8⟩,⟨b0,b1,b2,b3,b4,b5,b6,b7,b8⟩,vm⟩:=eH rn;obtain⟨⟨p0,p1,p2,p3,p4,p5,p6,p7,p8⟩,⟨q0,q1,q2,q3,q4,q5,q6,q7,q8⟩,vn⟩:=eH K;clear rK rn K)
 (try simp only[cL,Exit.then]);refine da (dv (P:=ac) rfl _ _ (N+1) 282 _ (0,0) _ rfl (jT vd.out) la rfl (by kernel_rfl)) rfl ?_;have hM:=tz.out.trans vc.out;have tB:=jU w9 (N+1) (Z U 9) (re qS) (qT ⟨#[]⟩) (qT x.text) (ra qu 0 0) (ra qu 0 0) (ra qu 0 0) (Z U ln) (Z U cl);exact⟨⟨9,bq,x.text,ra qu 0 0,ln,cl,[]⟩,rfl,rfl,.inl ⟨rfl,rfl⟩,hM.1.ext tB (by omega) (by have:=rS.out;omega),hM.2.trans tB (λk R=> .inr (by omega))⟩
def jv:bm aw:=[⟨#[105,102]⟩,⟨#[119,104,105,108,101]⟩,⟨#[98,114,101,97,107]⟩,⟨#[99,111,110,116,105,110,117,101]⟩,⟨#[114,101,116,117,114,110]⟩,⟨#[102,114,101,101]⟩,⟨#[112,117,116]⟩]
theorem sN {t:Tok}{s:aw}{l:bm aw}(h:cO t s=qv)(d:s∈l):kM t l=qv:=by
 unfold kM;rw[ju];exact⟨s,d,h⟩
theorem Sm.inn.slice {B:cd}{w:World}{s:Sm}(h:s.inn B w):∃d n c,s.E= ra d n c:=by
 rcases h with h|⟨g,cap,f,_⟩
 ·exact⟨_,_,_,h.2⟩
 ·exact⟨_,_,_,f⟩
theorem xU {r lb cap:cd}{T:bm Tok}{i:cd}{k:cd}{t z:Tok}{e:Ex}(d:cj)(w:World)(h:Rd r lb cap T i w)(v:T[i]?=qt t)(hk:cO t oI=qv)(hl:dZ T (i+1) e k)(hz:T[k]?=qt z)(hs:cO z di=qv):
  ft ac 243 #[rb (qt ⟨r,0,qu⟩),Z U d] w (gK r lb cap T w ⟨8,bq,⟨#[]⟩,[e]⟩ (k+1)):=by
 obtain⟨N,f⟩:=zE w.heap.size;obtain⟨o,y⟩:=zE (w.alloc (rj #[Z U 0,re qS,qT ⟨#[]⟩,qT ⟨#[]⟩,ra qu 0 0,ra qu 0 0,ra qu 0 0,Z U 0,Z U 0] 282));have rn:=gQ y f;have sq:o.heap.size=N+1:=by rw[<-y];simp[f]
 have sr:o.heap[N]?=qt (rj #[Z U 0,re qS,qT ⟨#[]⟩,qT ⟨#[]⟩,ra qu 0 0,ra qu 0 0,ra qu 0 0,Z U 0,Z U 0] 282 (0,0)):=by rw[<-y,<-f];exact alloc_at _ _
 have q:=h.grow (by rw[f];exact rn);have rr:=zH (bi o q v);have sx:ca (∀W,aq o.heap.size o W->zS 171 #[rb (qt ⟨r,0,qu⟩)] W (re qS)):=λW A=>bg W (q.grow A);have rv:ca (∀(b:cd) W,aq o.heap.size o W->b<W.heap.size->W.heap[b]?=qt (rj #[qT ⟨#[105,102]⟩,qT ⟨#[119,104,105,108,101]⟩,qT ⟨#[98,114,101,97,107]⟩,qT ⟨#[99,111,110,116,105,110,117,101]⟩,qT ⟨#[114,101,116,117,114,110]⟩,qT ⟨#[102,114,101,101]⟩,qT ⟨#[112,117,116]⟩] 9 (0,0))->zP 260 #[rb (qt ⟨r,0,qu⟩),ra (qt ⟨b,0,qu⟩) 7 7] W (re (kM t jv))):=λb W A hb hr=>gu b 7 jv W (q.grow A) v (by decide) hb (gU hr rfl);rw[sN hk (show oI∈jv by decide)] at rv;have tt:ca (∀W,Rd r lb cap T i W->ft ac 261 #[rb (qt ⟨r,0,qu⟩),rh #[Z U 0,re qS,qT ⟨#[]⟩,qT ⟨#[]⟩,ra qu 0 0,ra qu 0 0,ra qu 0 0,Z U t.ln,Z U t.cl],Z U d] W (gK r lb cap T W ⟨8,bq,⟨#[]⟩,[e]⟩ (k+1))):=λW A=>uy _ _ d W A v hk hl hz hs;simp only[Tok.cells] at rr;have hst:∀(w:World)(c:cG bw),c.size=5->(cU ⟨w.heap.size,0,qu⟩ [Z U t.kind,qT t.text,Z U t.n,Z U t.ln,Z U t.cl] 0).run ac (w.alloc (rj c 263))= .ok () (w.alloc (rj #[Z U t.kind,qT t.text,Z U t.n,Z U t.ln,Z U t.cl] 263)):=λw c hc=>
  cf (P:=ac) w 263 c #[Z U t.kind,qT t.text,Z U t.n,Z U t.ln,Z U t.cl] (by show _=qt 5;kernel_rfl) hc (by simp[br])
 have sy:∀(w:World)(c:cG bw),c.size=9->(cU ⟨w.heap.size,0,qu⟩ [Z U 0,re qS,qT ⟨#[]⟩,qT ⟨#[]⟩,ra qu 0 0,ra qu 0 0,ra qu 0 0,Z U t.ln,Z U t.cl] 0).run ac (w.alloc (rj c 282))= .ok () (w.alloc (rj #[Z U 0,re qS,qT ⟨#[]⟩,qT ⟨#[]⟩,ra qu 0 0,ra qu 0 0,ra qu 0 0,Z U t.ln,Z U t.cl] 282)):=λw c hc=>
  cf (P:=ac) w 282 c #[Z U 0,re qS,qT ⟨#[]⟩,qT ⟨#[]⟩,ra qu 0 0,ra qu 0 0,ra qu 0 0,Z U t.ln,Z U t.cl] (by show _=qt 9;kernel_rfl) hc (by simp[br])
 have tv:=zH hst;have tz:=zH sy;have va:i<T.length:=(bl.1 v).1;have hT:=h.short;have vc:r<N:=by rw[<-f];exact h.rlt
 have tA:ca (lb<N):=by unfold ca;rw[<-f];exact h.lt
 have tB:=zH y;have sB:=zH rn;have rl:=zH sq;have tD:=zH sr;have H1:=zH q;clear h v hst sy y rn sq sr q hk hl hz hs;go_enter func243,ntmps243
 go_upto_region 2 with(go_at_call 170;rw[tB.out];refine rr.out.mono ?_;rintro e w2 ⟨rfl,sE⟩;have tE:=tv.out w2;have sL:=zH sE;clear sE)
 clear tE;obtain⟨G,D⟩:=zE w2.heap.size;obtain⟨W3,J⟩:=zE (w2.alloc (rj #[Z U t.kind,qT t.text,Z U t.n,Z U t.ln,Z U t.cl] 263));rw[D,J];have sR:=zD J sL;have rx:W3.heap.size=G+1:=by rw[<-J,<-D];simp
 have vd:N+1<=G:=by rw[<-D,<-rl.out];exact sL.out.size
 have rB:W3.heap[G]?=qt (rj #[Z U t.kind,qT t.text,Z U t.n,Z U t.ln,Z U t.cl] 263 (0,0)):=by rw[<-J,<-D];exact alloc_at _ _
 obtain⟨⟨g0,g1,g2,g3,g4⟩,_,vf⟩:=d9 rB;have sT:=tz.out W3;have tG:=zH sR;have tM:=zH rB;clear D J sR rB;rw[rx] at sT
 go_upto_region 4 with(fail)
 clear sT;obtain⟨K,u⟩:=zE (W3.alloc (rj #[Z U 0,re qS,qT ⟨#[]⟩,qT ⟨#[]⟩,ra qu 0 0,ra qu 0 0,ra qu 0 0,Z U t.ln,Z U t.cl] 282));rw[u];have R:=zD u tG;have tP:K.heap.size=G+2:=by rw[<-u];simp[rx]
 have sX:K.heap[G+1]?=qt (rj #[Z U 0,re qS,qT ⟨#[]⟩,qT ⟨#[]⟩,ra qu 0 0,ra qu 0 0,ra qu 0 0,Z U t.ln,Z U t.cl] 282 (0,0)):=by rw[<-u,<-rx];exact alloc_at _ _
 have sY:K.heap[G]?=qt (rj #[Z U t.kind,qT t.text,Z U t.n,Z U t.ln,Z U t.cl] 263 (0,0)):=by rw[<-u];exact(bt _ _ G (by omega)).trans tM.out
 have te:=(R.block N (by have:=rl.out;omega)).trans tD.out;obtain⟨W5,rm⟩:=zE (K.alloc (rj #[qT ⟨#[105,102]⟩,qT ⟨#[119,104,105,108,101]⟩,qT ⟨#[98,114,101,97,107]⟩,qT ⟨#[99,111,110,116,105,110,117,101]⟩,qT ⟨#[114,101,116,117,114,110]⟩,qT ⟨#[102,114,101,101]⟩,qT ⟨#[112,117,116]⟩] 9));have rI:=iF rm;have rK:=R.trans (rI.mono R.size);have rL:W5.heap[G+2]?=qt (rj #[qT ⟨#[105,102]⟩,qT ⟨#[119,104,105,108,101]⟩,qT ⟨#[98,114,101,97,107]⟩,qT ⟨#[99,111,110,116,105,110,117,101]⟩,qT ⟨#[114,101,116,117,114,110]⟩,qT ⟨#[102,114,101,101]⟩,qT ⟨#[112,117,116]⟩] 9 (0,0)):=by rw[<-rm,<-tP];exact alloc_at _ _
 have tR:=zH (sx.out K R);have tS:=zH (rv.out (G+2) W5 rK (aa rL) rL);have tU:=zH rm;have tf:=zH rI;have th:=zH rK;have tW:=zH sX;have vh:=zH sY;have ua:=zH te;clear u R sX sY te rm rI rK rL sx rr rv g0 g1 g2 g3 g4
 go_upto_region 7 with(first
  |(go_at_call 171;refine tR.out.mono ?_;rintro e w5 ⟨rfl,rfl⟩)
  |(go_at_call 260;(try rw[tU.out]);refine tS.out.mono ?_;rintro e w6 ⟨rfl,ti⟩;have tj:=zH ti;clear ti))
 have rN:=tf.out.trans (tj.out.mono tf.out.size);have rS:=th.out.trans (tj.out.mono th.out.size);have h6:=H1.out.grow rS;have tl:=(rN.block (G+1) (by omega)).trans tW.out;have tm:=(rN.block N (by omega)).trans ua.out;obtain⟨⟨a0,a1,a2,a3,a4,a5,a6,a7,a8⟩,_,vi⟩:=eH tl;have ub:=zH (tt.out w6 h6);have tn:=zH rS;have tp:=zH tm;clear rN rS h6 tl tm
 go_wp2_with (go_at_call 261;refine ub.out.mono ?_;rintro e w7 ⟨s,rfl,tr,se,sf⟩;obtain⟨uc,en,ec,hE⟩:=se.slice;have HE:=zH hE;have ud:=zH tr;have ue:=zH se;have ur:=zH sf;have sk:=sf.2.heap tp.out (by omega);have uv:=zH sk;obtain⟨⟨p0,p1,p2,p3,p4,p5,p6,p7,p8⟩,⟨q0,q1,q2,q3,q4,q5,q6,q7,q8⟩,vj⟩:=eH sk;unfold Sm.cells;rw[hE];clear tr se sf sk hE)
 (try simp only[cL,Exit.then]);refine da (dv (P:=ac) rfl _ _ N 282 _ (0,0) _ rfl (jT uv.out) la rfl (by kernel_rfl)) rfl ?_;have sn:=jU w7 N (Z U s.kind) (re s.ty.1) (qT s.ty.2) (qT s.nm) (ra uc en ec) (ra qu 0 0) (ra qu 0 0) (Z U s.ln) (Z U s.cl);have ux:w.heap.size<=w6.heap.size:=(sB.out.trans (tn.out.mono (by rw[rl.out];omega))).size;have vm:N<w6.heap.size:=aa tp.out;have hM:bu r lb cap T (k+1) w w7:=bu.grown (show aq w.heap.size w w6 by rw[f];exact sB.out.trans (tn.out.mono (by rw[rl.out];omega))) ur.out;exact⟨s,by unfold Sm.cells;rw[HE.out],ud.out,(ue.out.ext sn (λk q h2 e=>by omega)).mono ux,hM.1.ext sn (by omega) (by have:=tA.out;omega),hM.2.trans sn (λk hk=> .inr (by omega))⟩
theorem vV {r lb cap:cd}{T:bm Tok}{i:cd}{t u x v z:Tok}(d:cj)(w:World)(h:Rd r lb cap T i w)(A:T[i]?=qt t)(hk:cO t zo=qv)(hu:T[i+1]?=qt u)(sr:cO u dY=qv)(sx:T[i+2]?=qt x)(sy:x.kind=1)(hv:T[i+3]?=qt v)(sB:cO v lY=qv)(hz:T[i+4]?=qt z)(hs:cO z di=qv):
  ft ac 243 #[rb (qt ⟨r,0,qu⟩),Z U d] w (gK r lb cap T w ⟨9,bq,x.text,[]⟩ (i+5)):=by
 obtain⟨N,f⟩:=zE w.heap.size;obtain⟨o,D⟩:=zE (w.alloc (rj #[Z U 0,re qS,qT ⟨#[]⟩,qT ⟨#[]⟩,ra qu 0 0,ra qu 0 0,ra qu 0 0,Z U 0,Z U 0] 282));have rr:=gQ D f;have sE:o.heap.size=N+1:=by rw[<-D];simp[f]
 have sL:o.heap[N]?=qt (rj #[Z U 0,re qS,qT ⟨#[]⟩,qT ⟨#[]⟩,ra qu 0 0,ra qu 0 0,ra qu 0 0,Z U 0,Z U 0] 282 (0,0)):=by rw[<-D,<-f];exact alloc_at _ _
 have q:=h.grow (by rw[f];exact rr);have rv:=zH (bi o q A);have sR:ca (∀W,aq o.heap.size o W->zS 171 #[rb (qt ⟨r,0,qu⟩)] W (re qS)):=λW J=>bg W (q.grow J);have rx:ca (∀(b:cd) W,aq o.heap.size o W->b<W.heap.size->W.heap[b]?=qt (rj #[qT ⟨#[105,102]⟩,qT ⟨#[119,104,105,108,101]⟩,qT ⟨#[98,114,101,97,107]⟩,qT ⟨#[99,111,110,116,105,110,117,101]⟩,qT ⟨#[114,101,116,117,114,110]⟩,qT ⟨#[102,114,101,101]⟩,qT ⟨#[112,117,116]⟩] 9 (0,0))->zP 260 #[rb (qt ⟨r,0,qu⟩),ra (qt ⟨b,0,qu⟩) 7 7] W (re (kM t jv))):=λb W J hb hr=>gu b 7 jv W (q.grow J) A (by decide) hb (gU hr rfl);rw[sN hk (show zo∈jv by decide)] at rx;have tD:ca (∀W,Rd r lb cap T i W->ft ac 261 #[rb (qt ⟨r,0,qu⟩),rh #[Z U 0,re qS,qT ⟨#[]⟩,qT ⟨#[]⟩,ra qu 0 0,ra qu 0 0,ra qu 0 0,Z U t.ln,Z U t.cl],Z U d] W (gK r lb cap T W ⟨9,bq,x.text,[]⟩ (i+5))):=λW J=>rz _ _ d W J A hk hu sr sx sy hv sB hz hs;simp only[Tok.cells] at rv;have hst:∀(w:World)(c:cG bw),c.size=5->(cU ⟨w.heap.size,0,qu⟩ [Z U t.kind,qT t.text,Z U t.n,Z U t.ln,Z U t.cl] 0).run ac (w.alloc (rj c 263))= .ok () (w.alloc (rj #[Z U t.kind,qT t.text,Z U t.n,Z U t.ln,Z U t.cl] 263)):=λw c hc=>
  cf (P:=ac) w 263 c #[Z U t.kind,qT t.text,Z U t.n,Z U t.ln,Z U t.cl] (by show _=qt 5;kernel_rfl) hc (by simp[br])
 have sT:∀(w:World)(c:cG bw),c.size=9->(cU ⟨w.heap.size,0,qu⟩ [Z U 0,re qS,qT ⟨#[]⟩,qT ⟨#[]⟩,ra qu 0 0,ra qu 0 0,ra qu 0 0,Z U t.ln,Z U t.cl] 0).run ac (w.alloc (rj c 282))= .ok () (w.alloc (rj #[Z U 0,re qS,qT ⟨#[]⟩,qT ⟨#[]⟩,ra qu 0 0,ra qu 0 0,ra qu 0 0,Z U t.ln,Z U t.cl] 282)):=λw c hc=>
  cf (P:=ac) w 282 c #[Z U 0,re qS,qT ⟨#[]⟩,qT ⟨#[]⟩,ra qu 0 0,ra qu 0 0,ra qu 0 0,Z U t.ln,Z U t.cl] (by show _=qt 9;kernel_rfl) hc (by simp[br])
 have tE:=zH hst;have tG:=zH sT;have vi:i<T.length:=(bl.1 A).1;have hT:=h.short;have vj:r<N:=by rw[<-f];exact h.rlt
 have tM:ca (lb<N):=by unfold ca;rw[<-f];exact h.lt
 have tP:=zH D;have sX:=zH rr;have rm:=zH sE;have tR:=zH sL;have H1:=zH q;clear h A hst sT D rr sE sL q hk hu sr sx sy hv sB hz hs;go_enter func243,ntmps243
 go_upto_region 2 with(go_at_call 170;rw[tP.out];refine rv.out.mono ?_;rintro e w2 ⟨rfl,sY⟩;have tS:=tE.out w2;have te:=zH sY;clear sY)
 clear tS;obtain⟨G,K⟩:=zE w2.heap.size;obtain⟨W3,R⟩:=zE (w2.alloc (rj #[Z U t.kind,qT t.text,Z U t.n,Z U t.ln,Z U t.cl] 263));rw[K,R];have tf:=zD R te;have rB:W3.heap.size=G+1:=by rw[<-R,<-K];simp
 have vm:N+1<=G:=by rw[<-K,<-rm.out];exact te.out.size
 have rI:W3.heap[G]?=qt (rj #[Z U t.kind,qT t.text,Z U t.n,Z U t.ln,Z U t.cl] 263 (0,0)):=by rw[<-R,<-K];exact alloc_at _ _
 obtain⟨⟨g0,g1,g2,g3,g4⟩,_,vn⟩:=d9 rI;have th:=tG.out W3;have tU:=zH tf;have tW:=zH rI;clear K R tf rI;rw[rB] at th
 go_upto_region 4 with(fail)
 clear th;obtain⟨W4,y⟩:=zE (W3.alloc (rj #[Z U 0,re qS,qT ⟨#[]⟩,qT ⟨#[]⟩,ra qu 0 0,ra qu 0 0,ra qu 0 0,Z U t.ln,Z U t.cl] 282));rw[y];have rl:=zD y tU;have ua:W4.heap.size=G+2:=by rw[<-y];simp[rB]
 have ti:W4.heap[G+1]?=qt (rj #[Z U 0,re qS,qT ⟨#[]⟩,qT ⟨#[]⟩,ra qu 0 0,ra qu 0 0,ra qu 0 0,Z U t.ln,Z U t.cl] 282 (0,0)):=by rw[<-y,<-rB];exact alloc_at _ _
 have tj:W4.heap[G]?=qt (rj #[Z U t.kind,qT t.text,Z U t.n,Z U t.ln,Z U t.cl] 263 (0,0)):=by rw[<-y];exact(bt _ _ G (by omega)).trans tW.out
 have tl:=(rl.block N (by have:=rm.out;omega)).trans tR.out;obtain⟨W5,rn⟩:=zE (W4.alloc (rj #[qT ⟨#[105,102]⟩,qT ⟨#[119,104,105,108,101]⟩,qT ⟨#[98,114,101,97,107]⟩,qT ⟨#[99,111,110,116,105,110,117,101]⟩,qT ⟨#[114,101,116,117,114,110]⟩,qT ⟨#[102,114,101,101]⟩,qT ⟨#[112,117,116]⟩] 9));have rK:=iF rn;have rL:=rl.trans (rK.mono rl.size);have rN:W5.heap[G+2]?=qt (rj #[qT ⟨#[105,102]⟩,qT ⟨#[119,104,105,108,101]⟩,qT ⟨#[98,114,101,97,107]⟩,qT ⟨#[99,111,110,116,105,110,117,101]⟩,qT ⟨#[114,101,116,117,114,110]⟩,qT ⟨#[102,114,101,101]⟩,qT ⟨#[112,117,116]⟩] 9 (0,0)):=by rw[<-rn,<-ua];exact alloc_at _ _
 have ub:=zH (sR.out W4 rl);have uc:=zH (rx.out (G+2) W5 rL (aa rN) rN);have ud:=zH rn;have tm:=zH rK;have tn:=zH rL;have ue:=zH ti;have vp:=zH tj;have ur:=zH tl;clear y rl ti tj tl rn rK rL rN sR rv rx g0 g1 g2 g3 g4
 go_upto_region 7 with(first
  |(go_at_call 171;refine ub.out.mono ?_;rintro e w5 ⟨rfl,rfl⟩)
  |(go_at_call 260;(try rw[ud.out]);refine uc.out.mono ?_;rintro e w6 ⟨rfl,tp⟩;have tr:=zH tp;clear tp))
 have rS:=tm.out.trans (tr.out.mono tm.out.size);have se:=tn.out.trans (tr.out.mono tn.out.size);have h6:=H1.out.grow se;have tt:=(rS.block (G+1) (by omega)).trans ue.out;have tv:=(rS.block N (by omega)).trans ur.out;obtain⟨⟨a0,a1,a2,a3,a4,a5,a6,a7,a8⟩,_,vq⟩:=eH tt;have uv:=zH (tD.out w6 h6);have tz:=zH se;have tA:=zH tv;clear rS se h6 tt tv
 go_wp2_with (go_at_call 261;refine uv.out.mono ?_;rintro e w7 ⟨s,rfl,tB,sf,sk⟩;obtain⟨ux,en,ec,hE⟩:=sf.slice;have HE:=zH hE;have va:=zH tB;have vc:=zH sf;have vd:=zH sk;have sn:=sk.2.heap tA.out (by omega);have vf:=zH sn;obtain⟨⟨p0,p1,p2,p3,p4,p5,p6,p7,p8⟩,⟨q0,q1,q2,q3,q4,q5,q6,q7,q8⟩,vr⟩:=eH sn;unfold Sm.cells;rw[hE];clear tB sf sk sn hE)
 (try simp only[cL,Exit.then]);refine da (dv (P:=ac) rfl _ _ N 282 _ (0,0) _ rfl (jT vf.out) la rfl (by kernel_rfl)) rfl ?_;have sq:=jU w7 N (Z U s.kind) (re s.ty.1) (qT s.ty.2) (qT s.nm) (ra ux en ec) (ra qu 0 0) (ra qu 0 0) (Z U s.ln) (Z U s.cl);have vh:w.heap.size<=w6.heap.size:=(sX.out.trans (tz.out.mono (by rw[rm.out];omega))).size;have vt:N<w6.heap.size:=aa tA.out;have hM:bu r lb cap T (i+5) w w7:=bu.grown (show aq w.heap.size w w6 by rw[f];exact sX.out.trans (tz.out.mono (by rw[rm.out];omega))) vd.out;exact⟨s,by unfold Sm.cells;rw[HE.out],va.out,(vc.out.ext sq (λk q h2 e=>by omega)).mono vh,hM.1.ext sq (by omega) (by have:=tM.out;omega),hM.2.trans sq (λk hk=> .inr (by omega))⟩
theorem vW {r lb cap:cd}{T:bm Tok}{i:cd}{k:cd}{t u x v z:Tok}{e:Ex}(d:cj)(w:World)(h:Rd r lb cap T i w)(ht:T[i]?=qt t)(q:t.kind=1)(hu:T[i+1]?=qt u)(sX:cO u jc=qv)(tU:u.kind=4)(tW:T[i+2]?=qt x)(ua:x.kind=1)(hv:T[i+3]?=qt v)(ub:cO v Ec=qv)(hl:dZ T (i+4) e k)(hz:T[k]?=qt z)(hs:cO z di=qv):
  ft ac 243 #[rb (qt ⟨r,0,qu⟩),Z U d] w (gK r lb cap T w ⟨1,(qv,t.text),x.text,[e]⟩ (k+1)):=by
 obtain⟨N,hN⟩:=zE w.heap.size;obtain⟨o,rm⟩:=zE (w.alloc (rj #[Z U 0,re qS,qT ⟨#[]⟩,qT ⟨#[]⟩,ra qu 0 0,ra qu 0 0,ra qu 0 0,Z U 0,Z U 0] 282));have sY:=gQ rm hN;have uc:o.heap.size=N+1:=by rw[<-rm];simp[hN]
 have ud:o.heap[N]?=qt (rj #[Z U 0,re qS,qT ⟨#[]⟩,qT ⟨#[]⟩,ra qu 0 0,ra qu 0 0,ra qu 0 0,Z U 0,Z U 0] 282 (0,0)):=by rw[<-rm,<-hN];exact alloc_at _ _
 have h1:=h.grow (by rw[hN];exact sY);have te:=zH (bi o h1 ht);have ue:ca (∀W,aq o.heap.size o W->zS 171 #[rb (qt ⟨r,0,qu⟩)] W (re qS)):=λW f=>bg W (h1.grow f);have tf:ca (∀(b:cd) W,aq o.heap.size o W->b<W.heap.size->W.heap[b]?=qt (rj #[qT ⟨#[105,102]⟩,qT ⟨#[119,104,105,108,101]⟩,qT ⟨#[98,114,101,97,107]⟩,qT ⟨#[99,111,110,116,105,110,117,101]⟩,qT ⟨#[114,101,116,117,114,110]⟩,qT ⟨#[102,114,101,101]⟩,qT ⟨#[112,117,116]⟩] 9 (0,0))->zP 260 #[rb (qt ⟨r,0,qu⟩),ra (qt ⟨b,0,qu⟩) 7 7] W (re (kM t jv))):=λb W f hb hr=>gu b 7 jv W (h1.grow f) ht (by decide) hb (gU hr rfl);rw[mZ (by omega) (by omega) jv] at tf;have rK:ca (∀W,aq o.heap.size o W->zP 172 #[rb (qt ⟨r,0,qu⟩),qT ul] W (re (cO t ul))):=λW f=>aW _ W (h1.grow f) ht;rw[kD q] at rK;unfold ul at rK;have th:ca (∀W,aq o.heap.size o W->zP 262 #[rb (qt ⟨r,0,qu⟩)] W (re (u.text==jc))):=λW f=>um W (h1.grow f) hu tU;rw[show(u.text==jc)=qv from nB.2 (uw sX).1] at th;have yy:ca (∀W,Rd r lb cap T i W->ft ac 209 #[rb (qt ⟨r,0,qu⟩)] W λe w'=>e= rk (rh #[re qv,qT t.text])/\bu r lb cap T (i+2) W w'):=λW f=>sM W f ht q hu sX;have yW:ca (∀W,Rd r lb cap T (i+2) W->ft ac 208 #[rb (qt ⟨r,0,qu⟩)] W λe w'=>e= rk (.tuple #[qT x.text,rh #[Z U x.ln,Z U x.cl]])/\bu r lb cap T (i+3) W w'):=λW f=>dD W f tW ua;have ur:ca (∀W,Rd r lb cap T (i+3) W->ft ac 207 #[rb (qt ⟨r,0,qu⟩),qT Ec] W λe w'=>e= rk (.tuple #[])/\bu r lb cap T (i+4) W w'):=λW f=>aT Ec W f hv ub;have uv:ca (∀W,Rd r lb cap T k W->ft ac 207 #[rb (qt ⟨r,0,qu⟩),qT di] W λe w'=>e= rk (.tuple #[])/\bu r lb cap T (k+1) W w'):=λW f=>aT di W f hz hs;unfold Ec at ur;unfold di at uv;have ti:∀W,Rd r lb cap T (i+4) W->ft ac 263 #[rb (qt ⟨r,0,qu⟩),Z U d] W λen w'=>en= rk (rh e.cells)/\bu r lb cap T k W w':=λW f=>lX d W f hl hz hs;unfold Ex.cells at ti;have zc:=zH ti;clear ti;simp only[Tok.cells,q] at te;have hst:∀(w:World)(c:cG bw),c.size=5->(cU ⟨w.heap.size,0,qu⟩ [Z U 1,qT t.text,Z U t.n,Z U t.ln,Z U t.cl] 0).run ac (w.alloc (rj c 263))= .ok () (w.alloc (rj #[Z U 1,qT t.text,Z U t.n,Z U t.ln,Z U t.cl] 263)):=λw c hc=>
  cf (P:=ac) w 263 c #[Z U 1,qT t.text,Z U t.n,Z U t.ln,Z U t.cl] (by show _=qt 5;kernel_rfl) hc (by simp[br])
 have ux:∀(w:World)(c:cG bw),c.size=9->(cU ⟨w.heap.size,0,qu⟩ [Z U 0,re qS,qT ⟨#[]⟩,qT ⟨#[]⟩,ra qu 0 0,ra qu 0 0,ra qu 0 0,Z U t.ln,Z U t.cl] 0).run ac (w.alloc (rj c 282))= .ok () (w.alloc (rj #[Z U 0,re qS,qT ⟨#[]⟩,qT ⟨#[]⟩,ra qu 0 0,ra qu 0 0,ra qu 0 0,Z U t.ln,Z U t.cl] 282)):=λw c hc=>
  cf (P:=ac) w 282 c #[Z U 0,re qS,qT ⟨#[]⟩,qT ⟨#[]⟩,ra qu 0 0,ra qu 0 0,ra qu 0 0,Z U t.ln,Z U t.cl] (by show _=qt 9;kernel_rfl) hc (by simp[br])
 have zd:=zH hst;have zj:=zH ux;have CD:i<T.length:=(bl.1 ht).1;have hT:=h.short;have CH:r<N:=by rw[<-hN];exact h.rlt
 have rn:ca (lb<N):=by unfold ca;rw[<-hN];exact h.lt
 have zp:=zH rm;have zr:=zH sY;have tj:=zH uc;have zv:=zH ud;have H1:=zH h1;clear h ht hst ux rm sY uc ud h1 q hu sX tU tW ua hv ub hl hz hs;go_enter func243,ntmps243
 go_upto_region 2 with(go_at_call 170;rw[zp.out];refine te.out.mono ?_;rintro e w2 ⟨rfl,va⟩;have An:=zd.out w2;have vc:=zH va;clear va)
 clear An;obtain⟨G,hG⟩:=zE w2.heap.size;obtain⟨W3,rr⟩:=zE (w2.alloc (rj #[Z U 1,qT t.text,Z U t.n,Z U t.ln,Z U t.cl] 263));rw[hG,rr];have vd:=zD rr vc;have tl:W3.heap.size=G+1:=by rw[<-rr,<-hG];simp
 have CM:N+1<=G:=by rw[<-hG,<-tj.out];exact vc.out.size
 have tm:W3.heap[G]?=qt (rj #[Z U 1,qT t.text,Z U t.n,Z U t.ln,Z U t.cl] 263 (0,0)):=by rw[<-rr,<-hG];exact alloc_at _ _
 obtain⟨⟨g0,g1,g2,g3,g4⟩,_,CN⟩:=d9 tm;have vf:=zj.out W3;have As:=zH vd;have At:=zH tm;clear hG rr vd tm;rw[tl] at vf
 go_upto_region 4 with(fail)
 clear vf;obtain⟨W4,rl⟩:=zE (W3.alloc (rj #[Z U 0,re qS,qT ⟨#[]⟩,qT ⟨#[]⟩,ra qu 0 0,ra qu 0 0,ra qu 0 0,Z U t.ln,Z U t.cl] 282));rw[rl];have rv:=zD rl As;have Ax:W4.heap.size=G+2:=by rw[<-rl];simp[tl]
 have vh:W4.heap[G+1]?=qt (rj #[Z U 0,re qS,qT ⟨#[]⟩,qT ⟨#[]⟩,ra qu 0 0,ra qu 0 0,ra qu 0 0,Z U t.ln,Z U t.cl] 282 (0,0)):=by rw[<-rl,<-tl];exact alloc_at _ _
 have vi:W4.heap[G]?=qt (rj #[Z U 1,qT t.text,Z U t.n,Z U t.ln,Z U t.cl] 263 (0,0)):=by rw[<-rl];exact(bt _ _ G (by omega)).trans At.out
 have vj:=(rv.block N (by have:=tj.out;omega)).trans zv.out;obtain⟨W5,rL⟩:=zE (W4.alloc (rj #[qT ⟨#[105,102]⟩,qT ⟨#[119,104,105,108,101]⟩,qT ⟨#[98,114,101,97,107]⟩,qT ⟨#[99,111,110,116,105,110,117,101]⟩,qT ⟨#[114,101,116,117,114,110]⟩,qT ⟨#[102,114,101,101]⟩,qT ⟨#[112,117,116]⟩] 9));have tn:=iF rL;have tp:=rv.trans (tn.mono rv.size);have tr:W5.heap[G+2]?=qt (rj #[qT ⟨#[105,102]⟩,qT ⟨#[119,104,105,108,101]⟩,qT ⟨#[98,114,101,97,107]⟩,qT ⟨#[99,111,110,116,105,110,117,101]⟩,qT ⟨#[114,101,116,117,114,110]⟩,qT ⟨#[102,114,101,101]⟩,qT ⟨#[112,117,116]⟩] 9 (0,0)):=by rw[<-rL,<-Ax];exact alloc_at _ _
 have AD:=zH (ue.out W4 rv);have AE:=zH (tf.out (G+2) W5 tp (aa tr) tr);have AF:=zH rL;have vm:=zH tn;have vn:=zH tp;have AG:=zH vh;have AH:=zH vi;have AI:=zH vj;clear rl rv vh vi vj rL tn tp tr ue te tf g0 g1 g2 g3 g4
 go_upto_region 8 with(first
  |(go_at_call 171;refine AD.out.mono ?_;rintro e w5 ⟨rfl,rfl⟩)
  |(go_at_call 260;(try rw[AF.out]);refine AE.out.mono ?_;rintro e w6 ⟨rfl,vp⟩;have vq:=zH vp;clear vp))
 have rN:=vm.out.trans (vq.out.mono vm.out.size);have rx:=vn.out.trans (vq.out.mono vn.out.size);have tt:=(rN.block (G+1) (by omega)).trans AG.out;have vr:=(rN.block G (by omega)).trans AH.out;have vt:=(rN.block N (by omega)).trans AI.out;have AK:=zH (rK.out w6 rx);have AM:=zH (λW (hb:aq w6.heap.size w6 W)=>th.out W (rx.trans (hb.mono rx.size)));have vu:=zH rx;have AN:=zH tt;have AS:=zH vr;have AT:=zH vt;have CT:G+1<w6.heap.size:=aa tt;clear rN rx tt vr vt th rK
 go_upto_region 9 with(first
  |(go_at_call 172;refine AK.out.mono ?_;rintro e w7 ⟨rfl,tv⟩;have tz:=zH tv;obtain⟨⟨g0,g1,g2,g3,g4⟩,_,AW⟩:=d9 ((tv.block G (by omega)).trans AS.out);clear tv)
  |(go_at_call 262;refine(AM.out w7 tz.out).mono ?_;rintro e w8 ⟨rfl,vx⟩;have tA:=zH (tz.out.trans (vx.mono tz.out.size));clear vx))
 have tB:=vu.out.trans (tA.out.mono vu.out.size);have h8:=H1.out.grow tB;have tD:=(tA.out.block (G+1) (by omega)).trans AN.out;have vy:=(tA.out.block N (by omega)).trans AT.out;obtain⟨⟨y,A,D,J,K,R,a6,a7,a8⟩,⟨b0,b1,b2,b3,b4,b5,b6,b7,b8⟩,A0⟩:=eH tD;have H8:=zH h8;have A1:=zH tB;have A2:=zH tD;have A3:=zH vy;clear tB h8 tD vy g0 g1 g2 g3 g4 AW
 go_upto_region 10 with(fail)
 obtain⟨W9,rS⟩:=zE (w8.setCell ⟨G+1,0,qu⟩ (Z U 1));rw[rS];have se:Ext (·=G+1) w8 W9:=by rw[<-rS];exact af (Ext.refl _ _) _
 have h9:=H8.out.ext se (by omega) (by have:=rn.out;omega);have wa:bu r lb cap T i w W9:=⟨h9,((Ext.of_below_size (M:=(·=r)) (show aq w.heap.size w w8 by rw[hN];exact zr.out.trans (A1.out.mono (by rw[tj.out];omega))))).trans se (λk q=> .inr (by omega))⟩
 have wb:W9.heap[G+1]?=qt (rj #[Z U 1,re qS,qT ⟨#[]⟩,qT ⟨#[]⟩,ra qu 0 0,ra qu 0 0,ra qu 0 0,Z U t.ln,Z U t.cl] 282 (0,0)):=by rw[<-rS];exact aE _ (G+1) 0 _ _ _ A2.out
 have we:=se.heap A3.out (by omega);have wg:=zH wa;have A4:=zH wb;have A5:=zH we;clear rS se h9 wa wb we y A D J K R a6 a7 a8 b0 b1 b2 b3 b4 b5 b6 b7 b8 A0
 go_upto_region 11 with(go_at_call 209;refine(yy.out W9 wg.out.1).mono ?_;rintro e wi ⟨rfl,sf⟩;have wj:=zH (wg.out.trans sf);have tE:=sf.2.heap A4.out (by omega);have wk:=sf.2.heap A5.out (by omega);have A6:=zH tE;have Bk:=zH wk;obtain⟨⟨y,A,D,J,K,R,a6,a7,a8⟩,⟨b0,b1,b2,b3,b4,b5,b6,b7,b8⟩,Bm⟩:=eH tE;clear sf tE wk)
 obtain⟨sk,sn⟩:=zE ((wi.setCell ⟨G+1,1,qu⟩ (re qv)).setCell ⟨G+1,2,qu⟩ (qT t.text));rw[sn];have sq:Ext (·=G+1) wi sk:=by rw[<-sn];exact af (af (Ext.refl _ _) _) _
 have wl:bu r lb cap T (i+2) w sk:=⟨wj.out.1.ext sq (by omega) (by have:=rn.out;omega),wj.out.2.trans sq (λk q=> .inr (by omega))⟩
 have wn:sk.heap[G+1]?=qt (rj #[Z U 1,re qv,qT t.text,qT ⟨#[]⟩,ra qu 0 0,ra qu 0 0,ra qu 0 0,Z U t.ln,Z U t.cl] 282 (0,0)):=by rw[<-sn];exact aE _ (G+1) 2 _ _ _ (aE _ (G+1) 1 _ _ _ A6.out)
 have ws:=sq.heap Bk.out (by omega);have wx:=zH wl;have By:=zH wn;have BE:=zH ws;clear sn sq wl wn ws y A D J K R a6 a7 a8 b0 b1 b2 b3 b4 b5 b6 b7 b8 Bm
 go_upto_region 12 with(go_at_call 208;refine(yW.out sk wx.out.1).mono ?_;rintro e xf ⟨rfl,sr⟩;have xj:=zH (wx.out.trans sr);have tG:=sr.2.heap By.out (by omega);have xl:=sr.2.heap BE.out (by omega);have BT:=zH tG;have BY:=zH xl;obtain⟨⟨y,A,D,J,K,R,a6,a7,a8⟩,⟨b0,b1,b2,b3,b4,b5,b6,b7,b8⟩,B4⟩:=eH tG;clear sr tG xl)
 obtain⟨sx,sy⟩:=zE (xf.setCell ⟨G+1,3,qu⟩ (qT x.text));rw[sy];have sB:Ext (·=G+1) xf sx:=by rw[<-sy];exact af (Ext.refl _ _) _
 have xo:bu r lb cap T (i+3) w sx:=⟨xj.out.1.ext sB (by omega) (by have:=rn.out;omega),xj.out.2.trans sB (λk q=> .inr (by omega))⟩
 have xp:sx.heap[G+1]?=qt (rj #[Z U 1,re qv,qT t.text,qT x.text,ra qu 0 0,ra qu 0 0,ra qu 0 0,Z U t.ln,Z U t.cl] 282 (0,0)):=by rw[<-sy];exact aE _ (G+1) 3 _ _ _ BT.out
 have xr:=sB.heap BY.out (by omega);have xt:=zH xo;have B5:=zH xp;have B6:=zH xr;clear sy sB xo xp xr y A D J K R a6 a7 a8 b0 b1 b2 b3 b4 b5 b6 b7 b8 B4
 go_upto_region 13 with(go_at_call 207;refine(ur.out sx xt.out.1).mono ?_;rintro e B7 ⟨rfl,tM⟩;have xF:=zH (xt.out.trans tM);have xT:=zH tM.2;clear tM)
 go_upto_region 16 with(go_at_call 263;refine(zc.out B7 xF.out.1).mono ?_;rintro e sE ⟨rfl,sL⟩;have ya:=zH (xF.out.trans sL);have tP:=sL.2.heap (xT.out.heap B5.out (by omega)) (by omega);have yb:=sL.2.heap (xT.out.heap B6.out (by omega)) (by omega);have B8:=zH tP;have B9:=zH yb;obtain⟨⟨y,A,D,J,K,R,a6,a7,a8⟩,⟨b0,b1,b2,b3,b4,b5,b6,b7,b8⟩,yd⟩:=eH tP;clear sL tP yb)
 obtain⟨Q,hQ⟩:=zE sE.heap.size;rw[hQ];obtain⟨rB,rI⟩:=zE ((sE.setCell ⟨G+1,4,qu⟩ (ra (qt ⟨Q,0,qu⟩) 1 1)).alloc (rj #[Z U e.kind,Z U e.n,qT e.nm,qT ⟨#[]⟩,ra qu 0 0,Z U e.ln,Z U e.cl] 313));rw[rI];have sR:Ext (·=G+1) sE rB:=by rw[<-rI];exact(af (Ext.refl _ _) _).alloc _
 have C3:G+1<Q:=by rw[<-hQ];exact yd
 have ye:rB.heap[Q]?=qt (rj #[Z U e.kind,Z U e.n,qT e.nm,qT ⟨#[]⟩,ra qu 0 0,Z U e.ln,Z U e.cl] 313 (0,0)):=by
  have:=alloc_at (sE.setCell ⟨G+1,4,qu⟩ (ra (qt ⟨Q,0,qu⟩) 1 1)) (rj #[Z U e.kind,Z U e.n,qT e.nm,qT ⟨#[]⟩,ra qu 0 0,Z U e.ln,Z U e.cl] 313);rw[World.size_setCell,hQ,rI] at this;exact this
 have yi:rB.heap[G+1]?=qt (rj #[Z U 1,re qv,qT t.text,qT x.text,ra (qt ⟨Q,0,qu⟩) 1 1,ra qu 0 0,ra qu 0 0,Z U t.ln,Z U t.cl] 282 (0,0)):=by
  rw[<-rI];exact(bt _ _ (G+1) (by rw[World.size_setCell];omega)).trans (aE _ (G+1) 4 _ _ _ B8.out)
 have yk:=sR.heap B9.out (by omega);have yp:bu r lb cap T k w rB:=⟨ya.out.1.ext sR (by omega) (by have:=rn.out;omega),ya.out.2.trans sR (λk q=> .inr (by omega))⟩
 have yq:=zH yp;have Cd:=zH ye;have Cl:=zH yi;have Cp:=zH yk;clear hQ rI sR ye yi yk yp y A D J K R a6 a7 a8 b0 b1 b2 b3 b4 b5 b6 b7 b8 yd
 go_wp2_with (go_at_call 207;refine(uv.out rB yq.out.1).mono ?_;rintro e CA ⟨rfl,sT⟩;have yr:=zH sT;have yv:=sT.2.heap Cl.out (by omega);have tR:=sT.2.heap Cp.out (by omega);have CC:=zH tR;obtain⟨⟨y,A,D,J,K,R,a6,a7,a8⟩,⟨b0,b1,b2,b3,b4,b5,b6,b7,b8⟩,C4⟩:=eH yv;obtain⟨⟨p0,p1,p2,p3,p4,p5,p6,p7,p8⟩,⟨q0,q1,q2,q3,q4,q5,q6,q7,q8⟩,C5⟩:=eH tR;clear sT yv tR)
 (try simp only[cL,Exit.then]);refine da (dv (P:=ac) rfl _ _ N 282 _ (0,0) _ rfl (jT CC.out) la rfl (by kernel_rfl)) rfl ?_;have hM:=yq.out.trans yr.out;have tS:=jU CA N (Z U 1) (re qv) (qT t.text) (qT x.text) (ra (qt ⟨Q,0,qu⟩) 1 1) (ra qu 0 0) (ra qu 0 0) (Z U t.ln) (Z U t.cl);refine⟨⟨1,(qv,t.text),x.text,ra (qt ⟨Q,0,qu⟩) 1 1,t.ln,t.cl,[e]⟩,rfl,rfl,.inr ⟨Q,1,rfl,by omega, ?_⟩,hM.1.ext tS (by omega) (by have:=rn.out;omega),hM.2.trans tS (λk q=> .inr (by omega))⟩;exact tS.heap (yr.out.2.heap Cd.out (by omega)) (by omega)
def kV:aw:=⟨#[123]⟩
def ik:aw:=⟨#[125]⟩
inductive jX (T:bm Tok) (i:cd):nP->cd->Prop
 |ret (t z:Tok) (e:Ex) (k:cd):T[i]?=qt t->cO t oI=qv->dZ T (i+1) e k->T[k]?=qt z->cO z di=qv->jX T i ⟨8,bq,⟨#[]⟩,[e]⟩ (k+1)
 |free (t u x v z:Tok):T[i]?=qt t->cO t zo=qv->T[i+1]?=qt u->cO u dY=qv->T[i+2]?=qt x->x.kind=1->T[i+3]?=qt v->cO v lY=qv->T[i+4]?=qt z->cO z di=qv->jX T i ⟨9,bq,x.text,[]⟩ (i+5)
 |decl (t u x v z:Tok) (e:Ex) (k:cd):T[i]?=qt t->t.kind=1->T[i+1]?=qt u->cO u jc=qv->u.kind=4->T[i+2]?=qt x->x.kind=1->T[i+3]?=qt v->cO v Ec=qv->dZ T (i+4) e k->T[k]?=qt z->cO z di=qv->
   jX T i ⟨1,(qv,t.text),x.text,[e]⟩ (k+1)
theorem uz {r lb cap:cd}{T:bm Tok}{i k:cd}{sh:nP}(d:cj)(w:World)(h:Rd r lb cap T i w)(hs:jX T i sh k):
  ft ac 243 #[rb (qt ⟨r,0,qu⟩),Z U d] w (gK r lb cap T w sh k):=by
 cases hs with
 |ret t z e k f o q y A=>exact xU d w h f o q y A
 |free t u x v z f o q y A D G J K R=>exact vV d w h f o q y A D G J K R
 |decl t u x v z e k f o q y A D G J K R rl rm=>exact vW d w h f o q y A D G J K R rl rm
theorem jX.first {T:bm Tok}{i k:cd}{q:nP}(h:jX T i q k):∃t,T[i]?=qt t/\cO t ik=qS/\i<k:=by
 cases h with
 |ret t z e k d f o y A=>exact⟨t,d,jd f (by decide),by have:=o.first;obtain⟨_,_,_,h⟩:=this;omega⟩
 |free t u x v z d f=>exact⟨t,d,jd f (by decide),by omega⟩
 |decl t u x v z e k d f o y A G J K R D=>exact⟨t,d,kD f,by have:=D.first;obtain⟨_,_,_,h⟩:=this;omega⟩
inductive gL (T:bm Tok):cd->bm nP->cd->Prop
 |nil (i:cd):gL T i [] i
 |cons (i j k:cd) (sh:nP) (l:bm nP):jX T i sh j->gL T j l k->gL T i (sh::l) k
theorem own_ne {w:World}{base:cd}{e t:ge}{size n k:cd}{v:bw}{xs:bm bw}{q:cG bw}{u:cd×cd}(h:w.ownsRow base e size v n xs)(y:w.heap[k]?=qt (rj q t u))(A:t≠e):¬v.ownBlock=qt k:=by
 intro d;rcases h.2 with⟨f,_⟩|⟨g,cap,cur,f,_,o,_⟩
 ·rw[f] at d;cases d
 ·rw[f] at d
  have D:g=k:=by simpa[eN] using d
  subst D;rw[y] at o;simp only[dc,Obj.cells.injEq] at o;exact A o.2.1
theorem Sm.inn.own {B base n:cd}{w w':World}{s:Sm}{v:bw}{xs:bm bw}(h:s.inn B w)(f:w.ownsRow base 282 9 v n xs)(o:Ext (λk=>v.ownBlock=qt k) w w'):s.inn B w':=by
 rcases h with h|⟨g,cap,q,u,d⟩
 ·exact .inl h
 ·exact .inr ⟨g,cap,q,u,o.heap d (own_ne f d (by decide))⟩
def oZ (r:cd)(T:bm Tok)(w:World):cd:=match w.cell? ⟨r,1,qu⟩ with
 |some (.int _ j)=>T.length-j.toNat
 |_=>0
theorem eQ {r lb cap:cd}{T:bm Tok}{j:cd}{w:World}(h:Rd r lb cap T j w):oZ r T w=T.length-j:=by
 unfold oZ;rw[h.cells.2.1];simp
theorem gL.le {T:bm Tok}{i k:cd}{l:bm nP}(h:gL T i l k):i<=k:=by
 induction h with
 |nil=>exact bp _
 |cons i j k f l d _ ih=>obtain⟨_,_,_,h⟩:=d.first;omega
def Ed (s:Sm):bm bw:=s.cells.toList
theorem CB (s:Sm)(d:du oA)(f o:cd)(h:s.E= ra d f o):∀u∈s.cells.toList,u.oneCell'=qv:=by
 unfold Sm.cells;rw[h];simp[br]
theorem Ac:(ac.info? 282).map (λi=>(i.zero,i.size,i.bytes))=qt (qt (rh #[Z U 0,re qS,qT ⟨#[]⟩,qT ⟨#[]⟩,ra qu 0 0,ra qu 0 0,ra qu 0 0,Z U 0,Z U 0]),9,136):=by kernel_rfl
def vX (r lb cap:cd)(T:bm Tok)(w:World)(d:bm nP)(k:cd)(e:Ending)(w':World):Prop:=
 ∃(v:bw) (ss:bm Sm),e= rk v/\ss.map Sm.shp=d/\w'.ownsRow w.heap.size 282 9 v ss.length (ss.flatMap Ed)/\(∀s∈ss,s.inn w.heap.size w')/\bu r lb cap T k w w'
def DK (r lb cap:cd)(T:bm Tok)(w:World)(d:bm nP)(k j:cd)(v:bw)(wr:World):Prop:=
 ∃(ss:bm Sm) (l:bm nP),ss.map Sm.shp++l=d/\gL T j l k/\wr.ownsRow w.heap.size 282 9 v ss.length (ss.flatMap Ed)/\(∀s∈ss,s.inn w.heap.size wr)/\bu r lb cap T j w wr/\ss.length<=j
theorem rA {r lb cap:cd}{T:bm Tok}{i k:cd}{t z:Tok}{rn:bm nP}(d:cj)(tW:0<=d)(hd:d<=100)(w:World)(h:Rd r lb cap T i w)(R:T[i]?=qt t)(ho:cO t kV=qv)(o:gL T (i+1) rn k)(hz:T[k]?=qt z)(hk:cO z ik=qv):
  ft ac 210 #[rb (qt ⟨r,0,qu⟩),Z U d] w (vX r lb cap T w rn (k+1)):=by
 have rv:=zH (aW kV w h R);rw[ho] at rv;unfold kV at rv;have th:ca (∀W,aq w.heap.size w W->zS 242 #[rb (qt ⟨r,0,qu⟩),Z U (d+1)] W (re qv)):=λW f=>qZ (d+1) W (h.grow f) (by omega);have sf:ca (∀(j:cd)(t:Tok) W,T[j]?=qt t->Rd r lb cap T j W->zP 172 #[rb (qt ⟨r,0,qu⟩),qT ⟨#[125]⟩] W (re (cO t ik))):=λj t W R f=>aW ik W f R;have ti:ca (∀(j:cd) W,Rd r lb cap T j W->zS 171 #[rb (qt ⟨r,0,qu⟩)] W (re qS)):=λj W f=>bg W f;have tj:ca (∀(j k:cd)(sh:nP) W,Rd r lb cap T j W->jX T j sh k->ft ac 243 #[rb (qt ⟨r,0,qu⟩),Z U (d+1)] W (gK r lb cap T W sh k)):=λj k sh W f o=>uz (d+1) W f o;have tl:ca (∀W,Rd r lb cap T k W->ft ac 207 #[rb (qt ⟨r,0,qu⟩),qT ⟨#[125]⟩] W λe w'=>e= rk (.tuple #[])/\bu r lb cap T (k+1) W w'):=λW f=>aT ik W f hz hk;have ua:i<T.length:=(bl.1 R).1;have hT:=h.short;have ub:=h.rlt;have uc:=h.lt;have H:=zH h;have HS:=zH o;have HZ:=zH hz;have HK:=zH hk;obtain⟨i0,tm,tn,tp,tr⟩:=ld Ac;clear h R ho o hz hk;go_enter func210,ntmps210
 go_upto_region 6 with(first
  |(go_at_call 172;refine rv.out.mono ?_;rintro e w2 ⟨rfl,sk⟩;have rx:=zH sk;clear sk)
  |(go_at_call 242;refine(th.out w2 rx.out).mono ?_;rintro e w3 ⟨rfl,rfl⟩))
 have h2:=H.out.grow rx.out;obtain⟨c0,c1,c3,f1,hr⟩:=h2.cells;have sn:bu r lb cap T (i+1) w (w2.setCell ⟨r,1,qu⟩ (Z U ((i:cj)+1))):=⟨h2.step,(Ext.of_below_size (M:=(·=r)) rx.out).trans (Ext.set1 w2 r 1 _) (λk hk=> .inl hk)⟩
 have sq:=zH sn;clear h2 sn
 go_upto_region 7 with(fail)
 obtain⟨W0,rB⟩:=zE (w2.setCell ⟨r,1,qu⟩ (Z U ((i:cj)+1)));rw[rB];rw[rB] at sq;clear rB c0 c1 c3 f1 hr
 go_loopw [5] (λv wr=>∃j:cd,DK r lb cap T w rn k j v wr) (λ_ wr=>oZ r T wr)
 case atStart=>exact⟨i+1,[],rn,rfl,HS.out,World.ownsRow_nil _ _ _ _,by simp,sq.out,by simp⟩
 case round=>
  obtain⟨j,ss,l,hl,sr,rI,rK,A,ud⟩:=hrel;have tt:=zH (eQ A.1);have ue:j<=1000000:=by
   have:=sr.le;have:=(bl.1 HZ.out).1;omega
  have HL:=zH hl;have rL:=zH rI;have sx:=zH rK;have HM:=zH A;cases sr with
  |nil=>
   have rl:=zH (sf.out k z wr HZ.out A.1);rw[HK.out] at rl;clear hl rI rK A
   go_upto_region 9 with(go_at_call 172;refine rl.out.mono ?_;rintro e D ⟨rfl,rm⟩;have u:=zH rm;clear rm)
   have sy:=HM.out.grow u.out;have G:=zH sy;clear sy
   go_wp2_with (go_at_call 207;refine(tl.out D G.out.1).mono ?_;rintro e w5 ⟨rfl,y⟩;have J:=zH y;clear y)
   go_ret;refine⟨_,ss,rfl,by rw[<-HL.out];simp, ?_, ?_,G.out.trans J.out⟩
   ·refine ae (ownsRow_below rL.out u.out) J.out.2 (λq hq=> ?_)
    have:=(ai rL.out hq).1;omega
   ·intro s o
    exact((sx.out s o).ext (Ext.of_below_size (M:=λ_=>jp) u.out) (λ_ _ _ h=>h)).ext J.out.2 (λq h1 _=>by omega)
  |cons _ j2 _ sh l2 rN rS=>
   obtain⟨t1,sB,sE,ur⟩:=rN.first
   have rl:=zH (sf.out j t1 wr sB A.1);rw[sE] at rl;have tv:=zH (ti.out j);have tz:=zH (λW f=>tj.out j j2 sh W f rN);have tA:=zH rS;have uv:j2<=T.length:=cE rS.le (mT (bl.1 HZ.out).1);clear hl rI rK A rN rS sB sE
   go_upto_region 8 with(first
    |(go_at_call 172;refine rl.out.mono ?_;rintro e D ⟨rfl,rm⟩;have u:=zH rm;clear rm)
    |(go_at_call 171;refine(tv.out D (HM.out.1.grow u.out)).mono ?_;rintro e w5 ⟨rfl,rfl⟩))
   have sL:=zH (ownsRow_below rL.out u.out);have tB:ca (∀s∈ss,s.inn w.heap.size D):=λs o=>(sx.out s o).ext (Ext.of_below_size (M:=λ_=>jp) u.out) (λ_ _ _ h=>h);have G:=zH (HM.out.grow u.out);have sR:w.heap.size<=D.heap.size:=G.out.2.size;have ux:ss.length<=1000000:=by omega
   go_wp2_with (first
    |(go_at_call 243;refine(tz.out D G.out.1).mono ?_;rintro e w5 ⟨s,rfl,sT,se,y⟩;obtain⟨tD,en,ec,hE⟩:=se.slice;have sX:=zH (CB s tD en ec hE);have K:=zH (ae sL.out y.2 (λq hq=>by have:=(ai sL.out hq).1;omega));have tE:ca (∀s∈ss,s.inn w.heap.size w5):=(λs o=>(tB.out s o).ext y.2 (λq h1 _=>by omega));have tG:=zH (se.mono sR);have J:=zH (G.out.trans y);have tM:=zH sT;have tP:w.heap.size<=w5.heap.size:=cE sR y.2.size;clear sT se y hE;unfold Sm.cells at sX⊢)
    |(at_builtin;refine gq rfl (.tmp 34) (.tmp 39) 231 rfl w.heap.size 282 i0 _ 9 136 underlying231 tm tn tp tr rfl (by decide) _ ss.length (ss.flatMap Ed) rfl K.out w5.heap.size #[Z U s.kind,re s.ty.1,qT s.ty.2,qT s.nm,s.E,ra qu 0 0,ra qu 0 0,Z U s.ln,Z U s.cl] rfl rfl rfl sX.out (by unfold dl;omega) (by omega) tP ?_;intro v7 w7 sY rr tR;have tS:=zH sY;have te:=zH rr;have tf:ca (bu r lb cap T j2 w w7):=(⟨J.out.1.ext rr (λh=>by have:=(ai K.out h).1;omega) (λh=>by have:=(ai K.out h).1;omega),J.out.2.trans rr (λq hq=> .inr (ai K.out hq).1)⟩:bu r lb cap T j2 w w7);clear sY rr tR))
   go_roundw
   case rel=>
    refine⟨j2,ss++[s],l2, ?_,tA.out, ?_, ?_,tf.out,by rw[co];simp;omega⟩
    ·rw[eS,eE,<-HL.out,<-tM.out];rfl
    ·rw[el,co]
     exact tS.out
    ·intro s' tU
     rcases cC.1 tU with h|h
     ·exact(tE.out s' h).own K.out te.out
     ·obtain rfl:s'=s:=by simpa using h
      exact tG.out.own K.out te.out
   case measure=>
    rw[eQ tf.out.1,tt.out];omega
theorem Bo (a:cj)(s:aw)(n d f:cj)(W:World):(ly 263 (rh #[Z U a,qT s,Z U n,Z U d,Z U f]) 3).run ac W= .ok (rh #[Z U d,Z U f]) W:=by
 have h:=gd;have o:(ac.info? 40).map (·.size)=qt 2:=by kernel_rfl
 have q:=li;unfold ly;rw[fc,eJ h W];obtain⟨i,u,v⟩:=gw.1 o;simp[asAgg,part,go_sem,isAgg,sizeOf,typeInfo,u,v,fc,eJ q W]
theorem o7 (a:cj)(s:aw)(n d f:cj)(W:World):(ly 263 (rh #[Z U a,qT s,Z U n,Z U d,Z U f]) 0).run ac W= .ok (Z U a) W:=by
 have h:=gd;have o:=cP;unfold ly;rw[fc,eJ h W];simp[asAgg,part,go_sem,isAgg,fc,eJ o W]
def iO:aw:=⟨#[115,116,114,117,99,116]⟩
inductive gy (T:bm Tok):cd->bm (aw×Ty)->cd->Prop
 |nil (i:cd):gy T i [] i
 |cons (i j k:cd) (y:Ty) (x z:Tok) (l:bm (aw×Ty)):uo T i y j->T[j]?=qt x->x.kind=1->T[j+1]?=qt z->cO z di=qv->gy T (j+2) l k->gy T i ((x.text,y)::l) k
theorem uo.first {T:bm Tok}{i k:cd}{y:Ty}(h:uo T i y k):∃t,T[i]?=qt t/\cO t ik=qS/\i<k:=by
 cases h with
 |int t d f=>exact⟨t,d,jd f (by decide),by omega⟩
 |ptr t u d f=>exact⟨t,d,kD f,by omega⟩
theorem gy.le {T:bm Tok}{i k:cd}{l:bm (aw×Ty)}(h:gy T i l k):i<=k:=by
 induction h with
 |nil=>exact bp _
 |cons i j k y x z l d _ _ _ _ _ ih=>obtain⟨_,_,_,h⟩:=d.first;omega
def Fd.shp (f:Fd):aw×Ty:=(f.nm,f.ty)
def qR (f:Fd):bm bw:=f.cells.toList
theorem zq:(ac.info? 92).map (λi=>(i.zero,i.size,i.bytes))=qt (qt (rh #[qT ⟨#[]⟩,re qS,qT ⟨#[]⟩,Z U 0,Z U 0]),5,56):=by kernel_rfl
def zt (r lb cap:cd)(T:bm Tok)(w:World)(nm:aw)(l:bm (aw×Ty))(k:cd)(e:Ending)(w':World):Prop:=
 ∃(f:du oA) (c:cd) (d:bm Fd) (h o:cj),e= rk (rh #[qT nm,ra f d.length c,Z U h,Z U o])/\d.map Fd.shp=l/\w'.ownsRow w.heap.size 92 5 (ra f d.length c) d.length (d.flatMap qR)/\bu r lb cap T k w w'
def EI (r lb cap:cd)(T:bm Tok)(w:World)(nm:aw)(l:bm (aw×Ty))(o q:cj)(k B j:cd)(wr:World):Prop:=
 ∃(f:du oA) (c:cd) (d:bm Fd) (h:bm (aw×Ty)),d.map Fd.shp++h=l/\gy T j h k/\wr.heap[B]?=qt (rj #[qT nm,ra f d.length c,Z U o,Z U q] 90 (0,0))/\
  wr.ownsRow (B+1) 92 5 (ra f d.length c) d.length (d.flatMap qR)/\bu r lb cap T j w wr/\d.length<=j/\wr.heap[w.heap.size]?=qt (rj #[qT ⟨#[]⟩,ra qu 0 0,Z U 0,Z U 0] 90 (0,0))
theorem lZ {r lb cap:cd}{T:bm Tok}{i k:cd}{t u x z z2:Tok}{l:bm (aw×Ty)}(w:World)(h:Rd r lb cap T i w)(ht:T[i]?=qt t)(ub:cO t iO=qv)(hx:T[i+1]?=qt x)(uc:x.kind=1)(hu:T[i+2]?=qt u)(ud:cO u kV=qv)
  (hl:gy T (i+3) l k)(hz:T[k]?=qt z)(o:cO z ik=qv)(ue:T[k+1]?=qt z2)(ur:cO z2 di=qv):
  ft ac 173 #[rb (qt ⟨r,0,qu⟩)] w (zt r lb cap T w x.text l (k+2)):=by
 obtain⟨N,v⟩:=zE w.heap.size;obtain⟨W1,rr⟩:=zE (w.alloc (rj #[qT ⟨#[]⟩,ra qu 0 0,Z U 0,Z U 0] 90));have sR:=gQ rr v;have uv:W1.heap.size=N+1:=by rw[<-rr];simp[v]
 have rv:W1.heap[N]?=qt (rj #[qT ⟨#[]⟩,ra qu 0 0,Z U 0,Z U 0] 90 (0,0)):=by rw[<-rr,<-v];exact alloc_at _ _
 have h1:=h.grow (by rw[v];exact sR);have ux:=zH (bi W1 h1 ht);have va:ca (∀W,Rd r lb cap T i W->ft ac 207 #[rb (qt ⟨r,0,qu⟩),qT iO] W λe w'=>e= rk (.tuple #[])/\bu r lb cap T (i+1) W w'):=λW f=>aT iO W f ht ub;have yb:ca (∀W,Rd r lb cap T (i+1) W->ft ac 208 #[rb (qt ⟨r,0,qu⟩)] W λe w'=>e= rk (.tuple #[qT x.text,rh #[Z U x.ln,Z U x.cl]])/\bu r lb cap T (i+2) W w'):=λW f=>dD W f hx uc;have vc:ca (∀W,Rd r lb cap T (i+2) W->ft ac 207 #[rb (qt ⟨r,0,qu⟩),qT kV] W λe w'=>e= rk (.tuple #[])/\bu r lb cap T (i+3) W w'):=λW f=>aT kV W f hu ud;have vd:ca (∀W,Rd r lb cap T k W->ft ac 207 #[rb (qt ⟨r,0,qu⟩),qT ik] W λe w'=>e= rk (.tuple #[])/\bu r lb cap T (k+1) W w'):=λW f=>aT ik W f hz o;have vf:ca (∀(j:cd)(z:Tok) W,T[j]?=qt z->cO z di=qv->Rd r lb cap T j W->ft ac 207 #[rb (qt ⟨r,0,qu⟩),qT ⟨#[59]⟩] W λe w'=>e= rk (.tuple #[])/\bu r lb cap T (j+1) W w'):=λj z W hz o f=>aT di W f hz o;have yd:=zH (λW=>vf.out (k+1) z2 W ue ur);have vh:ca (∀(j:cd)(t:Tok) W,T[j]?=qt t->Rd r lb cap T j W->zP 172 #[rb (qt ⟨r,0,qu⟩),qT ⟨#[125]⟩] W (re (cO t ik))):=λj t W ht f=>aW ik W f ht;have ye:ca (∀(j:cd) W,Rd r lb cap T j W->zS 171 #[rb (qt ⟨r,0,qu⟩)] W (re qS)):=λj W f=>bg W f;have yi:ca (∀(j k:cd)(y:Ty) W,uo T j y k->Rd r lb cap T j W->ft ac 209 #[rb (qt ⟨r,0,qu⟩)] W λe w'=>e= rk (rh #[re y.1,qT y.2])/\bu r lb cap T k W w'):=λj k y W hy f=>nO W f hy;have yk:ca (∀(j:cd)(x:Tok) W,T[j]?=qt x->x.kind=1->Rd r lb cap T j W->ft ac 208 #[rb (qt ⟨r,0,qu⟩)] W λe w'=>e= rk (.tuple #[qT x.text,rh #[Z U x.ln,Z U x.cl]])/\bu r lb cap T (j+1) W w'):=λj x W hx o f=>dD W f hx o;unfold iO at va;unfold kV at vc;unfold ik at vd;simp only[Tok.cells] at ux;have hst:∀(w:World)(c:cG bw),c.size=4->(cU ⟨w.heap.size,0,qu⟩ [qT ⟨#[]⟩,ra qu 0 0,Z U t.ln,Z U t.cl] 0).run ac (w.alloc (rj c 90))= .ok () (w.alloc (rj #[qT ⟨#[]⟩,ra qu 0 0,Z U t.ln,Z U t.cl] 90)):=λw c hc=>
  cf (P:=ac) w 90 c #[qT ⟨#[]⟩,ra qu 0 0,Z U t.ln,Z U t.cl] (by show _=qt 4;kernel_rfl) hc (by simp[br])
 have yp:=zH hst;have B6:i<T.length:=(bl.1 ht).1;have hT:=h.short;have B7:r<N:=by rw[<-v];exact h.rlt
 have rN:ca (lb<N):=by unfold ca;rw[<-v];exact h.lt
 have yq:=zH rr;have yr:=zH sR;have vi:=zH uv;have yv:=zH rv;have H1:=zH h1;have yy:=zH hl;have HZ:=zH hz;have HK:=zH o;have HN:=zH v;obtain⟨i0,yW,zc,zd,zj⟩:=ld zq;clear h ht ub hx uc hu ud hl hz o ue ur rr sR uv rv h1 hst;have zp:=λW=>Bo t.kind t.text t.n t.ln t.cl W;go_enter func173,ntmps173
 go_upto_region 2 with(go_at_call 170;rw[yq.out];refine ux.out.mono ?_;rintro e w2 ⟨rfl,vj⟩;have zr:=yp.out w2;have vm:=zH vj;clear vj)
 clear zr zp;obtain⟨B,hB⟩:=zE w2.heap.size;obtain⟨W3,rS⟩:=zE (w2.alloc (rj #[qT ⟨#[]⟩,ra qu 0 0,Z U t.ln,Z U t.cl] 90));rw[hB,rS];have se:=zD rS vm;have B8:N+1<=B:=by rw[<-hB,<-vi.out];exact vm.out.size
 have rm:W3.heap[B]?=qt (rj #[qT ⟨#[]⟩,ra qu 0 0,Z U t.ln,Z U t.cl] 90 (0,0)):=by rw[<-rS,<-hB];exact alloc_at _ _
 have vn:=(se.block N (by have:=vi.out;omega)).trans yv.out;have vp:bu r lb cap T i w W3:=⟨H1.out.grow se,(Ext.of_below_size (M:=(·=r)) (show aq w.heap.size w W1 by rw[v];exact yr.out)).trans (Ext.of_below_size (M:=(·=r)) se) (λk o=> .inl o)⟩
 have vq:=zH vp;have rn:=zH rm;have zv:=zH vn;clear hB rS se rm vn vp
 go_upto_region 3 with(go_at_call 207;refine(va.out W3 vq.out.1).mono ?_;rintro e w4 ⟨rfl,vr⟩;have sT:=zH vr;clear vr)
 go_upto_region 4 with(go_at_call 208;refine(yb.out w4 sT.out.1).mono ?_;rintro e w5 ⟨rfl,sX⟩;have vt:=zH (sT.out.trans sX);have sY:=(sT.out.trans sX).2.heap rn.out (by omega);have An:=zH sY;obtain⟨⟨a0,a1,a2,a3⟩,⟨b0,b1,b2,b3⟩,vu⟩:=kK sY;clear sX sY)
 obtain⟨W6,sf⟩:=zE (w5.setCell ⟨B,0,qu⟩ (qT x.text));rw[sf];have sk:Ext (·=B) w5 W6:=by rw[<-sf];exact af (Ext.refl _ _) _
 have vx:W6.heap[B]?=qt (rj #[qT x.text,ra qu 0 0,Z U t.ln,Z U t.cl] 90 (0,0)):=by rw[<-sf];exact aE _ B 0 _ _ _ An.out
 have vy:=sk.heap (vt.out.2.heap zv.out (by omega)) (show¬N=B by omega);have te:=vq.out.trans vt.out;have wa:bu r lb cap T (i+2) w W6:=⟨te.1.ext sk (by omega) (by have:=rN.out;omega),te.2.trans sk (λk o=> .inr (by omega))⟩
 have wb:=zH wa;have As:=zH vx;have At:=zH vy;clear sf sk vx vy te wa a0 a1 a2 a3 b0 b1 b2 b3 vu
 go_upto_region 5 with(go_at_call 207;refine(vc.out W6 wb.out.1).mono ?_;rintro e w7 ⟨rfl,we⟩;have tf:=zH we;clear we)
 have hI:EI r lb cap T w x.text l t.ln t.cl k B (i+3) w7:=⟨qu,0,[],l,rfl,yy.out,tf.out.2.heap As.out (by omega),World.ownsRow_nil _ _ _ _,wb.out.trans tf.out,by simp,by rw[v];exact tf.out.2.heap At.out (by omega)⟩
 have HI:=zH hI;clear hI
 go_loopw [4] (λ_ wr=>∃j:cd,EI r lb cap T w x.text l t.ln t.cl k B j wr) (λ_ wr=>oZ r T wr)
 case atStart=>exact⟨i+3,HI.out⟩
 case round=>
  obtain⟨j,ao,c,K,l2,hl,wg,rm,th,hm,B9,sn⟩:=hrel;rw[v] at sn;have Ax:=zH (eQ hm.1);have Cd:j<=1000000:=by
   have:=wg.le;have:=(bl.1 HZ.out).1;omega
  have HL:=zH hl;have sq:=zH th;have HM:=zH hm;have rn:=zH rm;have sr:=zH sn;cases wg with
  |nil=>
   have rx:=zH (vh.out k z wr HZ.out hm.1);rw[HK.out] at rx;clear hl th hm rm sn
   go_upto_region 10 with(go_at_call 172;refine rx.out.mono ?_;rintro e G ⟨rfl,rB⟩;have A:=zH rB;clear rB)
   have wi:=HM.out.grow A.out;have rI:=zH wi;clear wi
   go_upto_region 11 with(go_at_call 207;refine(vd.out G rI.out.1).mono ?_;rintro e w9 ⟨rfl,rK⟩;have R:=zH rK;clear rK)
   go_wp2_with (go_at_call 207;refine(yd.out w9 R.out.1).mono ?_;rintro e Cl ⟨rfl,rl⟩;have rL:=zH (R.out.trans rl);have rv:=(R.out.trans rl).2.heap ((A.out.block B (aa rn.out)).trans rn.out) (by omega);have ti:=(R.out.trans rl).2.heap ((A.out.block N (aa sr.out)).trans sr.out) (by omega);have AD:=zH ti;obtain⟨⟨a0,a1,a2,a3⟩,⟨b0,b1,b2,b3⟩,vu⟩:=kK rv;obtain⟨⟨p0,p1,p2,p3⟩,⟨q0,q1,q2,q3⟩,Cp⟩:=kK ti;clear rl rv ti)
   (try simp only[cL,Exit.then]);refine da (dv (P:=ac) rfl _ _ N 90 _ (0,0) _ rfl (gY AD.out) ms rfl (by kernel_rfl)) rfl ?_;have hM:=rI.out.trans rL.out;have tj:∀W u0 u1 u2 u3,Ext (·=N) W ((((W.setCell ⟨N,0,qu⟩ u0).setCell ⟨N,1,qu⟩ u1).setCell ⟨N,2,qu⟩ u2).setCell ⟨N,3,qu⟩ u3):=λW u0 u1 u2 u3=>af (af (af (af (Ext.refl _ _) _) _) _) _;refine⟨ao,c,K,t.ln,t.cl,rfl,by rw[<-HL.out];simp, ?_,hM.1.ext (tj _ _ _ _ _) (by omega) (by have:=rN.out;omega),hM.2.trans (tj _ _ _ _ _) (λk o=> .inr (by omega))⟩;rw[v];refine aP (ae (ae (ownsRow_below sq.out A.out) rL.out.2 (λq D=> ?_)) (tj _ _ _ _ _) (λq D=> ?_)) (show N<=B+1 by omega)
   ·have:=(ai sq.out D).1;omega
   ·have:=(ai sq.out D).1;omega
  |cons _ J _ y d z3 l3 tl wj wk wl wn tm=>
   obtain⟨t1,ws,wx,CA⟩:=tl.first
   have rx:=zH (vh.out j t1 wr ws hm.1);rw[wx] at rx;have AE:=zH (ye.out j);have AF:=zH (λW=>yi.out j J y W tl);have AG:=zH (λW=>yk.out J d W wj wk);have AH:=zH (λW=>vf.out (J+1) z3 W wl wn);have AI:=zH tm;have CC:J+2<=T.length:=cE tm.le (mT (bl.1 HZ.out).1);clear hl th hm rm sn tl wj wk wl wn tm ws wx
   go_upto_region 6 with(first
    |(go_at_call 172;refine rx.out.mono ?_;rintro e G ⟨rfl,rB⟩;have A:=zH rB;clear rB)
    |(go_at_call 171;refine(AE.out G (HM.out.1.grow A.out)).mono ?_;rintro e w9 ⟨rfl,rfl⟩))
   have rI:=zH (HM.out.grow A.out);have xf:∀(w:World)(c:cG bw),c.size=5->(cU ⟨w.heap.size,0,qu⟩ [qT ⟨#[]⟩,re y.1,qT y.2,Z U 0,Z U 0] 0).run ac (w.alloc (rj c 92))= .ok () (w.alloc (rj #[qT ⟨#[]⟩,re y.1,qT y.2,Z U 0,Z U 0] 92)):=λw c hc=>
    cf (P:=ac) w 92 c #[qT ⟨#[]⟩,re y.1,qT y.2,Z U 0,Z U 0] (by show _=qt 5;kernel_rfl) hc (by simp[br])
   have AK:=zH xf;clear xf
   go_upto_region 7 with(go_at_call 209;refine(AF.out G rI.out.1).mono ?_;rintro e w9 ⟨rfl,rK⟩;have R:=zH rK;have AM:=AK.out w9;clear rK)
   clear AM;obtain⟨F,hF⟩:=zE w9.heap.size;obtain⟨tn,sx⟩:=zE (w9.alloc (rj #[qT ⟨#[]⟩,re y.1,qT y.2,Z U 0,Z U 0] 92));rw[hF,sx];have xj:=iF sx;have xl:tn.heap[F]?=qt (rj #[qT ⟨#[]⟩,re y.1,qT y.2,Z U 0,Z U 0] 92 (0,0)):=by rw[<-sx,<-hF];exact alloc_at _ _
   have rl:bu r lb cap T J G tn:=R.out.grow xj;have tp:=(A.out.block B (aa rn.out)).trans rn.out;have xo:=(A.out.block N (aa sr.out)).trans sr.out;have xp:=ownsRow_below sq.out A.out;have CD:G.heap.size<=F:=by rw[<-hF];exact R.out.2.size
   have CH:B<G.heap.size:=aa tp;have rL:=zH rl;have AN:=zH xl;have AS:=zH tp;have AT:=zH xo;have xr:=zH xp;clear hF sx xj xl rl tp xo xp
   go_upto_region 8 with(go_at_call 208;refine(AG.out tn rL.out.1).mono ?_;rintro e tr ⟨rfl,tt⟩;have xt:=zH (rL.out.trans tt);have tv:=tt.2.heap AN.out (by omega);have AW:=zH tv;obtain⟨⟨a0,a1,a2,a3,a4⟩,⟨b0,b1,b2,b3,b4⟩,A0⟩:=d9 tv;clear tt tv)
   obtain⟨sy,sB⟩:=zE (((tr.setCell ⟨F,0,qu⟩ (qT d.text)).setCell ⟨F,3,qu⟩ (Z U d.ln)).setCell ⟨F,4,qu⟩ (Z U d.cl));rw[sB];have tz:Ext (·=F) tr sy:=by rw[<-sB];exact af (af (af (Ext.refl _ _) _) _) _
   have xF:sy.heap[F]?=qt (rj #[qT d.text,re y.1,qT y.2,Z U d.ln,Z U d.cl] 92 (0,0)):=by
    rw[<-sB];have h1:_=qt (Obj.cells #[qT d.text,re y.1,qT y.2,Z U 0,Z U 0] 92 (0,0)):=aE tr F 0 _ _ (qT d.text) AW.out;have h2:_=qt (Obj.cells #[qT d.text,re y.1,qT y.2,Z U d.ln,Z U 0] 92 (0,0)):=aE _ F 3 _ _ (Z U d.ln) h1;exact aE _ F 4 _ _ (Z U d.cl) h2
   have xT:bu r lb cap T (J+1) G sy:=⟨xt.out.1.ext tz (by omega) (by have:=rN.out;omega),xt.out.2.trans tz (λk o=> .inr (by omega))⟩
   have ya:=zH xT;have A1:=zH xF;clear sB tz xF xT a0 a1 a2 a3 a4 b0 b1 b2 b3 b4 A0
   go_upto_region 9 with(go_at_call 207;refine(AH.out sy ya.out.1).mono ?_;rintro e tA ⟨rfl,tB⟩;have sE:=zH (ya.out.trans tB);have A2:=zH (tB.2.heap A1.out (by omega));clear tB)
   have tD:=sE.out.2.heap AS.out (show¬B=r by omega);have A3:=zH tD;have A4:=zH (sE.out.2.heap AT.out (show¬N=r by omega));have tE:=zH (ae xr.out sE.out.2 (λq D=>by have:=(ai xr.out D).1;omega));obtain⟨⟨c0,c1,c2,c3⟩,⟨d0,d1,d2,d3⟩,A5⟩:=kK tD;obtain⟨⟨a0,a1,a2,a3,a4⟩,⟨b0,b1,b2,b3,b4⟩,CM⟩:=d9 A2.out;have A6:B+1<=tA.heap.size:=A5;have CN:K.length<=1000000:=by omega
   clear tD
   go_wp2_with (at_builtin;refine gq rfl (.tmp 40) (.tmp 42) 88 rfl (B+1) 92 i0 _ 5 56 gi yW zc zd zj rfl (by decide) _ K.length (K.flatMap qR) rfl tE.out tA.heap.size #[qT d.text,re y.1,qT y.2,Z U d.ln,Z U d.cl] rfl rfl rfl (by simp[br]) (by unfold dl;omega) (by omega) A6 ?_;intro CT tG tM tP Bk;obtain⟨tR,tS,Bm⟩:=av tM;subst Bm;have By:=zH tM;have BE:=zH tP;have tU:=tP.heap A3.out (λh=>by have:=(ai tE.out h).1;omega);have BT:=zH tU;obtain⟨⟨c0,c1,c2,c3⟩,⟨d0,d1,d2,d3⟩,C3⟩:=kK tU;clear tM tP Bk tU)
   have sL:Ext (λq=>B<=q) tA (tG.setCell ⟨B,1,qu⟩ (ra tR (K.length+1) tS)):=(BE.out.mono (λq D=>by have:=(ai tE.out D).1;omega)).trans (Ext.set1 tG B 1 _) (λq D=> .inl (by omega));have tW:=rI.out.trans sE.out;have ua:bu r lb cap T (J+1+1) w (tG.setCell ⟨B,1,qu⟩ (ra tR (K.length+1) tS)):=⟨tW.1.ext sL (by omega) (by have:=rN.out;omega),tW.2.trans sL (λq D=> .inr (by omega))⟩
   have BY:=zH ua;have B4:=zH (eQ ua.1);have B5:=zH sL;clear sL tW ua;go_roundw
   case rel=>
    refine⟨J+2,tR,tS,K++[⟨d.text,y.1,y.2,d.ln,d.cl⟩],l3, ?_,AI.out, ?_, ?_,BY.out,by rw[co];simp;omega, ?_⟩
    ·rw[eS,eE,<-HL.out];rfl
    ·rw[co]
     exact aE _ B 1 _ _ _ BT.out
    ·rw[el,co]
     exact i5 By.out (by show B<B+1;omega) _
    ·rw[HN.out];exact B5.out.heap A4.out (by omega)
   case measure=>
    rw[B4.out,Ax.out];omega
end Go.Proofs.YtjomgckjhcfbgaaGreat
