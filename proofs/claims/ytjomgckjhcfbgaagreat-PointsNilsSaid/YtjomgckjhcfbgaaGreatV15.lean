/- Walks. -/
import Derived.Test.YtjomgckjhcfbgaaGreatRows
import Derived.ProofKit
import Derived.ChangeSame
import Derived.Test.YtjomgckjhcfbgaaGreatV7
import Derived.Test.YtjomgckjhcfbgaaGreatV10
import Derived.Test.YtjomgckjhcfbgaaGreatV14
set_option maxRecDepth 100000
set_option maxHeartbeats 64000000
set_option linter.all false
namespace Go.Proofs.YtjomgckjhcfbgaaGreat
open Go.RowKit
open Go.Proofs.Tryz renaming prog→ac,underlying4→fh,underlying62→mL
open _root_.List renaming setIfInBounds_toArray→am,set_cons_zero→aE,set_cons_succ→bb,getElem?_eq_some_iff→ca,getElem?_eq_getElem→ce,length_append→cm,mem_append→cw,mem_of_getElem?→cA,eq_nil_of_length_eq_zero→db,take_length→dl,length_cons→du,append_assoc→ef,mem_map→eh,nil_append→ev,mem_cons→eR,cons_append→fN,mem_flatMap→gw,length_nil→gO,map_cons→kj,take_add_one→kp,length_take→lp,append_toArray→mC
open Go.RowKit.Below renaming refl→an
open _root_.Array renaming getElem?_eq_some_iff→aw,replicate_succ→nb,replicate_zero→nd
open _root_ renaming List→bh,Nat→bw,Int→ct,if_neg→cy,Array→cC,if_pos→cQ,Option→dr,congrArg→dy,False→fW,absurd→gC,Bool→iv,decide_eq_true→kh,decide_eq_true_eq→lP
open Go.RowKit renaming Below→bj,Hid→cr
open _root_.Nat renaming le_refl→bl,lt_of_lt_of_le→cg,zero_add→cJ,zero_le→da,le_succ→fX,add_zero→ix,min_eq_left→m4
open Go renaming Value→bo,run_storeCells_new→cf,cell_of_row→ci,storeCells→cM,bodyPost_ret→cP,maxLen→cX,results_none→de,frozen_of_row→dt,Calls→et,heap_alloc2_old→eA,wpQuiet_nil→eC,TypeId→eJ,wpListIn_nil→fx,bodyPost_end→gb,Program→gA,info_parts→iu,wpIn_region_lit→iS,wpIn_wide→lB,results→mS
open Go.Value renaming oneCell'→bp,ownBlock→eL,string→oe,slice→ot,pointer→ox,bool→oy,agg→oA,int→Z
open Go.Exit renaming inBlock→cD,noGoto_ret→eM
open Go.Act renaming put→cE
open Go.Addr renaming add_lit→cI
open _root_.Option.some renaming inj→cN
open Go.Instr renaming lookup→ew
open Go.Lib renaming hid→it
open _root_.Prod.mk renaming injEq→lR
open _root_.Option renaming some→oa,none→ob
open _root_.Bool renaming true→oc,false→od
open Go.Obj renaming cells→oB
open Go.Ending renaming returned→oE
open Go.IntKind renaming i64→U
open Go.Proofs.Tryz
section
open Go.RowKit Go.Maps
def AA:rY:=⟨ob,0,ob,0,λ_=> .map ob,λ_=> ot ob 0 0,λ_=> ot ob 0 0⟩
def Bd:PS:=⟨[],[],[],[],[]⟩
def AB (T HM FM GM:bw)(k:bw):PT:=if k=T then .top else if k=HM then .mh else if k=FM then .mf else if k=GM then .mg else .no
theorem Pm.fresh {T HM FM GM:bw}{m:Mo}{B:bw}{w:World}(b:w.heap[T]?=oa (oB (wT m HM FM GM AA 0 0) 148 (0,0)))
  (d:bW eB gI (.map ob) w HM 0 (λ_=> .map ob))(hF:bW eB gI (ot ob 0 0) w FM 0 (λ_=> ot ob 0 0))(f:bW eB gI (ot ob 0 0) w GM 0 (λ_=> ot ob 0 0))
  (n1:HM≠T)(n2:FM≠T)(n3:GM≠T)(A:FM≠HM)(D:GM≠HM)(G:GM≠FM)(J:B<=T)(K:B<=HM)(N:B<=FM)(R:B<=GM):
  Pm T HM FM GM m B (AB T HM FM GM) AA Bd w:=by
 have g:∀(e:eJ)(o:bw)(t:PT),nX w B (AB T HM FM GM) e o (ot ob 0 0) [] 0 t:=λe o t=>⟨ob,0,rfl,World.ownsRow_nil _ _ _ _,λj Y=>by simp[eL] at Y⟩
 refine⟨b,⟨0,d⟩,⟨0,hF⟩,⟨0,f⟩,World.ownsRow_nil _ _ _ _,World.ownsRow_nil _ _ _ _,λn _=> .inl ⟨rfl,λx h=>by cases h⟩,λn _=>g _ _ _,λn _=>g _ _ _, ?_, ?_, ?_, ?_,
  λk a=>by simp[eL,AA] at a,λk a=>by simp[eL,AA] at a,λk a=> ?_,by simp[Bd],by simp[Bd],by simp[Bd]⟩
 ·unfold AB;rw[cQ rfl]
 ·unfold AB;rw[cy n1,cQ rfl]
 ·unfold AB;rw[cy n2,cy A,cQ rfl]
 ·unfold AB;rw[cy n3,cy D,cy G,cQ rfl]
 ·unfold AB at a
  by_cases q:k=T
  ·rw[q];exact⟨J,(aw.1 b).1⟩
  rw[cy q] at a
  by_cases u:k=HM
  ·rw[u];exact⟨K,d.lt⟩
  rw[cy u] at a
  by_cases v:k=FM
  ·rw[v];exact⟨N,hF.lt⟩
  rw[cy v] at a
  by_cases y:k=GM
  ·rw[y];exact⟨R,f.lt⟩
  rw[cy y] at a;exact gC rfl a
end
section
open Go.RowKit Go.Maps
structure qE (w:World)(m:Mo):Prop where
 ri:iB w m
 wf:∀g∈m.fs,∀i∈g.c.ins,iI i.d/\iI i.a/\iI i.b/\iI i.f/\(i.op=15->∀y∈i.args,iI y)
 ni:m.xi.length<=400
 nf:m.fs.length<=60
theorem iB.belowP {w w':World}{m:Mo}(h:iB w m)(hb:bj w.heap.size w w'):iB w' m:=⟨h.mo.below hb,h.sl,h.fl,h.fd,h.vl,h.al⟩
theorem zn {g:Fn}{w:World}:∀(c:cC bo),c.size=8->(cM ⟨w.heap.size,0,ob⟩ g.c.cells.toList 0).run ac (w.alloc (oB c 38))= .ok () (w.alloc (oB g.c.cells 38)):=λc a=>
 cf (P:=ac) w 38 c g.c.cells (by show _=oa 8;kernel_rfl) a (by simp[ww.cells,bp])
theorem zo {i:Ins}(a:i.ok){w:World}:∀(c:cC bo),c.size=13->(cM ⟨w.heap.size,0,ob⟩ i.cells.toList 0).run ac (w.alloc (oB c 42))= .ok () (w.alloc (oB i.cells 42)):=λc b=>by
 obtain⟨⟨g,cap,d⟩,h,n2,j,f⟩:=a;exact cf (P:=ac) w 42 c i.cells (by show _=oa 13;kernel_rfl) b (by simp[Ins.cells,d,f,bp])
theorem qF {f:ct}{x:XI}:∀{l:bh Ins}{k:bw},x∈dQ f k l->x.1=f/\x.2.2∈l/\(k:ct)<=x.2.1/\x.2.1<(k+l.length:bw)
 |[],_,h=>by simp[dQ] at h
 |i::r,k,h=>by
  unfold dQ at h;rcases eR.1 h with rfl|h
  ·exact⟨rfl,by simp,by simp,by simp;omega⟩
  ·obtain⟨a,b,c,d⟩:=qF h
   exact⟨a,by simp[b],by omega,by simp at d⊢;omega⟩
theorem uD {x:XI}:∀{l:bh Fn}{f:bw},x∈gV f l->∃g∈l,(f:ct)<=x.1/\x.1<(f+l.length:bw)/\x.2.2∈g.c.ins/\0<=x.2.1/\x.2.1<(g.c.ins.length:bw)
 |[],_,h=>by simp[gV] at h
 |g::r,f,h=>by
  unfold gV at h;rcases cw.1 h with h|h
  ·obtain⟨a,b,c,d⟩:=qF h
   exact⟨g,by simp,by omega,by simp;omega,b,by omega,by omega⟩
  ·obtain⟨j,a,b,c,d⟩:=uD h
   exact⟨j,by simp[a],by omega,by simp at c⊢;omega,d⟩
theorem uE:∀(a b:bh Fn)(f:bw),∃r,gV f (a++b)=gV f a++r
 |[],b,f=>⟨gV f b,by simp[gV]⟩
 |x::a,b,f=>by
  obtain⟨r,d⟩:=uE a b (f+1);refine⟨r, ?_⟩;rw[fN];unfold gV;rw[d,ef]
theorem qG {f:ct}:∀(a b:bh Ins)(k:bw),∃r,dQ f k (a++b)=dQ f k a++r
 |[],b,k=>⟨dQ f k b,by simp[dQ]⟩
 |x::a,b,k=>by
  obtain⟨r,d⟩:=qG a b (k+1);exact⟨r,by rw[fN];unfold dQ;rw[d];rfl⟩
def Mo.upto (m:Mo)(j k:bw)(g:Fn):bh XI:=gV 0 (m.fs.take j)++dQ (j:ct) 0 (g.c.ins.take k)
theorem xQ (m:Mo)(j:bw)(g:Fn):m.upto j 0 g=gV 0 (m.fs.take j):=by simp[Mo.upto,dQ]
theorem qH {m:Mo}{j:bw}{g:Fn}(h:m.fs[j]?=oa g):m.upto j g.c.ins.length g=gV 0 (m.fs.take (j+1)):=by
 unfold Mo.upto;have a:=(ca.1 h).1;rw[dl,dx h,qo,cJ,lp,m4 (by omega)]
theorem qI {m:Mo}{j k:bw}{g:Fn}{i:Ins}(h:g.c.ins[k]?=oa i):m.upto j (k+1) g=m.upto j k g++[((j:ct),(k:ct),i)]:=by
 unfold Mo.upto;have a:=(ca.1 h).1;rw[dx h,nM,cJ,lp,m4 (by omega),ef]
theorem uF {m:Mo}{j k:bw}{g:Fn}(h:m.fs[j]?=oa g):∃r,m.xi=m.upto j k g++r:=by
 obtain⟨d,a⟩:=uE (m.fs.take (j+1)) (m.fs.drop (j+1)) 0;rw[List.take_append_drop,<-qH h] at a;obtain⟨o,b⟩:=qG (f:=(j:ct)) (g.c.ins.take k) (g.c.ins.drop k) 0;rw[List.take_append_drop] at b;refine⟨o++d, ?_⟩;unfold Mo.xi;rw[a];unfold Mo.upto;rw[dl,b];simp[ef]
theorem qE.okXs {w:World}{m:Mo}(h:qE w m):∀x∈m.xi,wV x:=λx d=>by
 obtain⟨g,a,q,u,b,v,y⟩:=uD d;obtain⟨w1,w2,f,j,o⟩:=h.wf g a _ b;have hf:=h.nf;have:g.c.ins.length<=cX:=(h.ri.mo.fin g a).code.len;unfold cX at this;exact⟨⟨by omega,by omega⟩,⟨by omega,by omega⟩,w1,w2,f,j,o,h.ri.al g a _ b⟩
def Ap (T HM FM GM:bw)(m:Mo)(B:bw)(a:World)(p:PS)(w:World):Prop:=
 ∃tg s,Pm T HM FM GM m B tg s p w/\bj B a w
theorem Ap.of {T HM FM GM:bw}{m:Mo}{B:bw}{a w w':World}{p p':PS}{tg:bw->PT}{s:rY}{Zk:PT->Prop}(h:Pm T HM FM GM m B tg s p w)(hb:bj B a w)(b:aQ Zk T HM FM GM m B tg p' w w'):Ap T HM FM GM m B a p' w':=by
 obtain⟨tg',s',d,f,j⟩:=b;exact⟨tg',s',d,hb.trans (f.below h.base (λq g=>(h.lo q g.1).1))⟩
theorem Ap.grow {T HM FM GM:bw}{m:Mo}{B:bw}{a w w':World}{p:PS}(h:Ap T HM FM GM m B a p w)(hb:bj w.heap.size w w'):Ap T HM FM GM m B a p w':=by
 obtain⟨tg,s,b,d⟩:=h;exact⟨tg,s,b.grow hb,d.trans (hb.mono b.base)⟩
end
section
open Go.RowKit Go.Maps
theorem wh {w a:World}{D B:bw}{m:Mo}(b:w.heap.size=D)(f:B<=D)
  (d:(((w.alloc (.map #[] 0)).alloc (.map #[] 0)).alloc (.map #[] 0)).alloc (oB (wT m D (D+1) (D+2) AA 0 0) 148)=a):
  Pm (D+3) D (D+1) (D+2) m B (AB (D+3) D (D+1) (D+2)) AA Bd a:=by
 have s1:(w.alloc (.map #[] 0)).heap.size=D+1:=by simp[b]
 have g:((w.alloc (.map #[] 0)).alloc (.map #[] 0)).heap.size=D+2:=by simp[b]
 have j:(((w.alloc (.map #[] 0)).alloc (.map #[] 0)).alloc (.map #[] 0)).heap.size=D+3:=by simp[b]
 have o:bj (w.alloc (.map #[] 0)).heap.size (w.alloc (.map #[] 0)) a:=by
  rw[<-d];exact(((an _ _).alloc (bl _) _).alloc (by simp) _).alloc (by simp) _
 have q:bj ((w.alloc (.map #[] 0)).alloc (.map #[] 0)).heap.size ((w.alloc (.map #[] 0)).alloc (.map #[] 0)) a:=by
  rw[<-d];exact((an _ _).alloc (bl _) _).alloc (by simp) _
 have u:bj (((w.alloc (.map #[] 0)).alloc (.map #[] 0)).alloc (.map #[] 0)).heap.size (((w.alloc (.map #[] 0)).alloc (.map #[] 0)).alloc (.map #[] 0)) a:=by
  rw[<-d];exact(an _ _).alloc (bl _) _
 have m1:=(bW.made (ok:=eB) (kv:=gI) (z:= .map ob) w).ext (Ext.of_below_size (M:=λ_=>fW) o) (λh=>h);have m2:=(bW.made (ok:=eB) (kv:=gI) (z:= ot ob 0 0) (w.alloc (.map #[] 0))).ext (Ext.of_below_size (M:=λ_=>fW) q) (λh=>h);have m3:=(bW.made (ok:=eB) (kv:=gI) (z:= ot ob 0 0) ((w.alloc (.map #[] 0)).alloc (.map #[] 0))).ext (Ext.of_below_size (M:=λ_=>fW) u) (λh=>h);rw[b] at m1;rw[s1] at m2;rw[g] at m3;refine Pm.fresh ?_ m1 m2 m3 (by omega) (by omega) (by omega) (by omega) (by omega) (by omega) (by omega) f (by omega) (by omega);rw[<-d,<-j];exact alloc_at _ _
def BA (m:Mo)(D B:bw)(a:World)(l:bh XI)(wr:World):Prop:=∃p,J1 l p/\Ap (D+3) D (D+1) (D+2) m B a p wr
theorem ow (m:Mo)(w:World)(h:qE w m)(hr:iT m=0):
  et ac 30 #[oA m.cells] w λe w'=>∃D p,e= oE (.tuple #[ox (oa ⟨D+3,0,ob⟩),Z U 0])/\p.td=[]/\p.St=aI m.xi/\(∀n y,(n,y)∈p.H↔Lf (aK 0 m.xi) (aJ m.xi) (cO m.xi) n y)/\Ap (D+3) D (D+1) (D+2) m (w.heap.size+1) (w.alloc (oB m.cells 25)) p w':=by
 obtain⟨b,pn⟩:=zE w.heap.size;obtain⟨a,Y⟩:=zE (w.alloc (oB m.cells 25));have po:=jJ Y;have qk:a.heap.size=b+1:=by rw[<-Y];simp[pn]
 have pd:a.heap[b]?=oa (oB m.cells 25 (0,0)):=by rw[<-Y,<-pn];exact alloc_at _ _
 rw[pn,Y];have pp:m.inn a:=h.ri.mo.below po;have pf:=zH (uk m a (iB.belowP h.ri po));rw[hr] at pf;have pw:=zH h.okXs;have rB:=zH pp;have HW:=zH h;have HR:=zH hr;have K:=zH qk;have tj:=zH pd;have rI:m.fs≠[]:=by
  intro e;have:=(lW hr).2.2.2.2.2;unfold Mo.fnIx fB at this;rw[e] at this;simp at this
 obtain⟨fb,fo,oT,px,o⟩:=pp.frow rI;have py:cr (∀W,bj a.heap.size a W->W.cell? ⟨b,0,ob⟩=oa (ot m.sA m.ss.length m.sC)/\W.cell? ⟨b,1,ob⟩=oa (ot (oa ⟨fb,fo,ob⟩) m.fs.length m.fC)/\b<W.heap.size):=λW hW=>by
  have r:=(hW.block b (aa pd)).trans pd;rw[<-oT];exact⟨(rowAt r 0 rfl).1,(rowAt r 1 rfl).1,aa r⟩
 have rK:cr (∀W,bj a.heap.size a W->(∀(j:bw)(g:Fn),m.fs[j]?=oa g->∀(q:bw)(u:bo),g.c.cells.toList[q]?=oa u->W.cell? ⟨fb,fo+j*8+q,ob⟩=oa u)/\fb<W.heap.size):=λW hW=>⟨λj g hj q u hu=>by rw[hW.cell (p:=⟨fb,_,ob⟩) px];exact o j g hj q u hu,cg px hW.size⟩
 have rL:cr (w.alloc (oB #[ot m.sA m.ss.length m.sC,ot (oa ⟨fb,fo,ob⟩) m.fs.length m.fC] 25)=a):=by rw[<-oT];exact Y
 obtain⟨k0,k1,k2⟩:=py.out a (an _ _);unfold Mo.cells at pf⊢;have rN:=zH oT;rw[oT] at pf⊢;clear h hr po qk pd pp Y oT px o;go_enter func30,ntmps30
 go_upto_region 1 with(fail)
 rw[rL.out]
 go_upto_region 2 with(go_at_call 53;refine pf.out.mono ?_;rintro e w1 ⟨rfl,qn⟩;have qq:=zH qn;clear qn)
 clear k0 k1 k2;obtain⟨k0,k1,k2⟩:=py.out w1 qq.out;obtain⟨D,hD⟩:=zE w1.heap.size;obtain⟨W4,oR⟩:=zE ((((w1.alloc (.map #[] 0)).alloc (.map #[] 0)).alloc (.map #[] 0)).alloc (oB (wT m D (D+1) (D+2) AA 0 0) 148));have ph:bj a.heap.size a w1:=qq.out;have qr:b+1<=D:=by have:=ph.size;have:=K.out;omega
 have qs:=wh hD qr oR;have qt:bj w1.heap.size w1 W4:=by rw[<-oR];exact((((an _ _).alloc (bl _) _).alloc (by simp) _).alloc (by simp;omega) _).alloc (by simp;omega) _
 have pB:bj a.heap.size a W4:=ph.trans (qt.mono ph.size);have rS:cr (BA m D (b+1) a [] W4):=⟨Bd,yY,_,_,qs,by rw[<-K.out];exact pB⟩
 unfold wT AA at oR;rw[rN.out] at oR;have se:=zH oR;have sf:=zH pB;have HD:=zH hD;clear ph oR qt pB qs hD qr;have sg:=@run_makeMap ac
 go_upto_region 5 with(fail)
 (try simp only[HD.out,Nat.add_assoc,Nat.reduceAdd]);rw[se.out];clear sg k0 k1 k2;obtain⟨k0,k1,k2⟩:=py.out W4 sf.out
 go_upto_region 6 with(fail)
 clear k0 k1 k2
 go_loopw [24] (λN wr=>∃j:bw,j<=m.fs.length/\N= Z U (j:ct)/\BA m D (b+1) a (gV 0 (m.fs.take j)) wr) (λN _=>m.fs.length-(intOf N).toNat)
 case atStart=>exact⟨0,da _,rfl,by rw[List.take_zero];exact rS.out⟩
 case round=>
  obtain⟨j,hj,rfl,pi⟩:=hrel;have pD:bj a.heap.size a wr:=by obtain⟨_,_,_,_,_,h2⟩:=pi;rw[K.out];exact h2
  by_cases qu:j<m.fs.length
  ·obtain⟨g,A⟩:∃g,m.fs[j]?=oa g:=⟨_,ce qu⟩
   have tl:(j:ct)<(m.fs.length:ct):=by omega
   have qv:=cA A;obtain⟨o,tm⟩:=rK.out wr pD;have x0:=o j g A 0 _ rfl;have x1:=o j g A 1 _ rfl;have x2:=o j g A 2 _ rfl;have x3:=o j g A 3 _ rfl;have x4:=o j g A 4 _ rfl;have x5:=o j g A 5 _ rfl;have x6:=o j g A 6 _ rfl;have x7:=o j g A 7 _ rfl;rw[ix] at x0;have hst:=zn (g:=g) (w:=wr);have pj:=rB.out.fin g qv;have qS:g.c.ins≠[]:=by
    have sk:=vN ((lW HR.out).2.2.2.2.1 g qv);intro e;have:=sk.2.1;rw[e] at this;simp at this
   obtain⟨ib,io,qT,ra,rb⟩:=pj.code.row qS;obtain⟨G,hG⟩:=zE wr.heap.size;obtain⟨W2,oX⟩:=zE (wr.alloc (oB g.c.cells 38));have rc:=jJ oX;have pH:W2.heap[G]?=oa (oB g.c.cells 38 (0,0)):=by rw[<-oX,<-hG];exact alloc_at _ _
   have sn:cr (BA m D (b+1) a (m.upto j 0 g) W2):=by
    obtain⟨p,h1,h2⟩:=pi;exact⟨p,by rw[xQ];exact h1,h2.grow rc⟩
   unfold ww.cells at hst pH oX;have re:=zH oX;have rh:=zH pH;have HG:=zH A;have so:cr (∀(k:bw)(i:Ins),g.c.ins[k]?=oa i->∀(q:bw)(u:bo),i.cells.toList[q]?=oa u->a.cell? ⟨ib,io+k*13+q,ob⟩=oa u):=rb;have sq:=zH pj;have sr:=zH qT;have sx:g.c.ins.length<=cX:=pj.code.len;unfold cX at sx;have tn:=HW.out.nf;have tp:b+1<=G:=by have:=pD.size;have:=K.out;omega
   clear qT o pj rb qS rc pH oX pi pD
   go_upto_region 8 with(fail)
   (try rw[re.out]);(try rw[hG]);clear x0 x1 x2 x3 x4 x5 x6 x7 hst hG re;have g7:W2.cell? ⟨G,7,ob⟩=oa (ot g.c.insA g.c.ins.length g.c.insC):=(rowAt rh.out 7 rfl).1;have sy:=aa rh.out;rw[sr.out] at g7
   go_upto_region 9 with(fail)
   clear g7 sy
   go_loopw [32] (λN wr=>∃k:bw,k<=g.c.ins.length/\N= Z U (k:ct)/\BA m D (b+1) a (m.upto j k g) wr) (λN _=>g.c.ins.length-(intOf N).toNat)
   case atStart=>exact⟨0,da _,rfl,sn.out⟩
   case round=>
    obtain⟨k,hk,rfl,p,v,tg,s,J,R⟩:=hrel
    by_cases rj:k<g.c.ins.length
    ·obtain⟨i,hi⟩:∃i,g.c.ins[k]?=oa i:=⟨_,ce rj⟩
     have rk:=cA hi;have tr:(k:ct)<(g.c.ins.length:ct):=by omega
     obtain⟨rl,ga,gc,pk,rm⟩:=sq.out.code.args i rk;have hst:=zo (i:=i) rl (w:=wr);obtain⟨_,mo,mn,mc,pl⟩:=rl;have oY:bj a.heap.size a wr:=by rw[K.out];exact R
     have d:∀(q:bw)(u:bo),i.cells.toList[q]?=oa u->wr.cell? ⟨ib,io+k*13+q,ob⟩=oa u:=λq u hu=>by rw[oY.cell (p:=⟨ib,_,ob⟩) ra];exact so.out k i hi q u hu
     have tt:ib<wr.heap.size:=cg ra oY.size;have x0:=d 0 _ rfl;have x1:=d 1 _ rfl;have x2:=d 2 _ rfl;have x3:=d 3 _ rfl;have x4:=d 4 _ rfl;have x5:=d 5 _ rfl;have x6:=d 6 _ rfl;have x7:=d 7 _ rfl;have x8:=d 8 _ rfl;have x9:=d 9 _ rfl;have sB:=d 10 _ rfl;have sE:=d 11 _ rfl;have sL:=d 12 _ rfl;rw[ix] at x0;rw[pk] at x7;rw[pl] at x8;obtain⟨Q,hQ⟩:=zE wr.heap.size;obtain⟨W5,oS⟩:=zE (wr.alloc (oB i.cells 42));have pL:=jJ oS;have pm:W5.heap[Q]?=oa (oB i.cells 42 (0,0)):=by rw[<-oS,<-hQ];exact alloc_at _ _
     have pN:=J.grow pL;have pP:bj a.heap.size a W5:=oY.trans (pL.mono oY.size);have pS:=uF (k:=k) HG.out;have pT:=uF (k:=k+1) HG.out;rw[qI hi] at pT;have rn:wV ((j:ct),(k:ct),i):=pw.out _ (by obtain⟨r,e⟩:=pT;rw[e];simp);have ro:(m.upto j k g).length<=400:=by obtain⟨r,e⟩:=pS;have:=HW.out.ni;rw[e,cm] at this;omega
     have rr:∀x∈m.upto j k g,x.2.2.args.length<=40:=λx hx=>(pw.out x (by obtain⟨r,e⟩:=pS;rw[e];simp[hx])).2.2.2.2.2.2.2;obtain⟨e1,e2,e3,e4⟩:=(v.settled (aX 0 0) 0).lens rr ro;have sR:=dC (l:=m.upto j k g);have pb:=pR W5 a pN (by have:=K.out;omega) pP (j:ct) (k:ct) i ga gc pk ⟨mo,mn,mc,pl⟩ rm.at_ rn (λn x hx=>by have:=eQ (v.snd _ hx);omega) (by rw[v.st];omega) e2 e4 e1 (by omega);unfold Ins.cells at hst oS pm pb;rw[pk,pl] at hst oS pm pb;have pb:=zH pb;have sT:=zH v;have sX:=zH pN;have sY:cr (bj (b+1) a W5):=by rw[<-K.out];exact pP
     have HI:=zH hi;have rv:=zH oS;have f:=zH pm;clear oY d pL pm oS pk pl rm hi rk J R v pN pP pS pT rn ro rr e1 e2 e3 e4 sR
     go_upto_region 11 with(fail)
     (try rw[rv.out]);(try rw[hQ]);clear x0 x1 x2 x3 x4 x5 x6 x7 x8 x9 sB sE sL hst hQ rv;obtain⟨z0,z1,z2,z3,z4,z5,z6,z7,z8,z9,tv,tz,tA⟩:(_/\_/\_/\_/\_/\_/\_/\_/\_/\_/\_/\_/\_):=⟨(rowAt f.out 0 rfl).1,(rowAt f.out 1 rfl).1,(rowAt f.out 2 rfl).1,(rowAt f.out 3 rfl).1,(rowAt f.out 4 rfl).1,(rowAt f.out 5 rfl).1,(rowAt f.out 6 rfl).1,(rowAt f.out 7 rfl).1,(rowAt f.out 8 rfl).1,(rowAt f.out 9 rfl).1,(rowAt f.out 10 rfl).1,(rowAt f.out 11 rfl).1,(rowAt f.out 12 rfl).1⟩
     go_wp2_with (go_at_call 71;refine pb.out.mono ?_;rintro e w7 ⟨rfl,p',rx,pc⟩;have pZ:=zH pc;have ta:=zH rx;clear pc rx)
     go_roundw
     case rel=>exact⟨k+1,rj,by go_num,p',by rw[qI HI.out];exact sT.out.step ta.out,Ap.of sX.out sY.out pZ.out⟩
     case measure=>simp[intOf];omega
    ·have tc:k=g.c.ins.length:=by omega
     have te:cr (BA m D (b+1) a (gV 0 (m.fs.take (j+1))) wr):=⟨p,by rw[<-qH HG.out,<-tc];exact v,tg,s,J,R⟩
     clear v J R;go_wp2;go_roundw
     case rel=>exact⟨j+1,qu,by go_num,te.out⟩
     case measure=>simp[intOf];omega
  ·have tf:j=m.fs.length:=by omega
   obtain⟨p,v,tg,s,J,R⟩:=pi;have qe:J1 m.xi p:=by rw[tf,dl] at v;exact v
   have th:=zH (oq wr J m.xi pw.out HW.out.ni qe);have HJ:=zH qe;have HP:=zH J;have ti:=zH R;clear v J R qe
   go_wp2_with (go_at_call 72;refine th.out.mono ?_;rintro e w7 ⟨rfl,p',q1,q2,q3,pc⟩;have HQ:=zH (And.intro q1 (And.intro q2 q3));have pZ:=zH pc;clear pc q1 q2 q3)
   go_ret2
   exact⟨D,p',rfl,HQ.out.1,HQ.out.2.1.trans HJ.out.st,HQ.out.2.2,Ap.of HP.out ti.out pZ.out⟩
end
section
open Go.RowKit Go.Maps
section
variable {T HM FM GM:bw}{m:Mo}{B:bw}{tg tg1:bw->PT}{s s1:rY}{p p1 p':PS}{w w1 w':World}
theorem gH (w:World)(n1 n2 n3:ct):zP 78 #[ox ob,oA #[Z U n1,Z U n2,Z U n3]] w (ot ob 0 0):=by
 go_enter func78,ntmps78;go_wp2;go_ret;exact⟨rfl,(an _ _).alloc (bl _) _⟩
end
end
section
open Go.RowKit Go.Maps
section
variable {T HM FM GM:bw}{m:Mo}{B:bw}{tg tg1:bw->PT}{s s1:rY}{p p1 p':PS}{w w1 w':World}
theorem jA (w:World)(f v:ct):zP 44 #[ox ob,Z U f,Z U v] w (ot ob 0 0):=by
 have j:cr (∀w,zP 77 #[Z U f,Z U v] w (gI (aX f v))):=λw=>aT f v w;have o:cr (∀w a b c,zP 78 #[ox ob,oA #[Z U a,Z U b,Z U c]] w (ot ob 0 0)):=λw a b c=>gH w a b c
 by_cases u:f<0
 ·go_enter func44,ntmps44
  go_wp2;go_ret;exact⟨rfl,an _ _⟩
 by_cases y:v<0
 ·go_enter func44,ntmps44
  go_wp2;go_ret;exact⟨rfl,an _ _⟩
 ·go_enter func44,ntmps44
  go_wp2_with (first
   |(go_at_call 77;refine(j.out _).mono ?_;rintro e w2 ⟨rfl,d⟩;have g:=zH d;clear d;unfold gI aX)
   |(go_at_call 78;refine(o.out _ _ _ _).mono ?_;rintro e A ⟨rfl,h⟩;have q:=zH h;clear h))
  go_ret;exact⟨rfl,g.out.trans (q.out.mono g.out.size)⟩
theorem mD (w:World)(f v:ct):zP 36 #[ox ob,Z U f,Z U v] w (ot ob 0 0):=by
 have j:cr (∀w,zP 79 #[Z U f,Z U v] w (gI (mi f v))):=λw=>jy f v w;have o:cr (∀w a b c,zP 78 #[ox ob,oA #[Z U a,Z U b,Z U c]] w (ot ob 0 0)):=λw a b c=>gH w a b c
 by_cases u:f<0
 ·go_enter func36,ntmps36
  go_wp2;go_ret;exact⟨rfl,an _ _⟩
 by_cases y:v<0
 ·go_enter func36,ntmps36
  go_wp2;go_ret;exact⟨rfl,an _ _⟩
 ·go_enter func36,ntmps36
  go_wp2_with (first
   |(go_at_call 79;refine(j.out _).mono ?_;rintro e w2 ⟨rfl,d⟩;have g:=zH d;clear d;unfold gI mi)
   |(go_at_call 78;refine(o.out _ _ _ _).mono ?_;rintro e A ⟨rfl,h⟩;have q:=zH h;clear h))
  go_ret;exact⟨rfl,g.out.trans (q.out.mono g.out.size)⟩
theorem lc (w:World)(f:ct):zP 42 #[ox ob,Z U f] w (ot ob 0 0):=by
 have j:cr (∀w,zP 83 #[Z U f] w (gI (ma f))):=λw=>fJ f w;have o:cr (∀w a b c,zP 78 #[ox ob,oA #[Z U a,Z U b,Z U c]] w (ot ob 0 0)):=λw a b c=>gH w a b c
 by_cases u:f<0
 ·go_enter func42,ntmps42
  go_wp2;go_ret;exact⟨rfl,an _ _⟩
 ·go_enter func42,ntmps42
  go_wp2_with (first
   |(go_at_call 83;refine(j.out _).mono ?_;rintro e w2 ⟨rfl,d⟩;have g:=zH d;clear d;unfold gI ma)
   |(go_at_call 78;refine(o.out _ _ _ _).mono ?_;rintro e v ⟨rfl,h⟩;have q:=zH h;clear h))
  go_ret;exact⟨rfl,g.out.trans (q.out.mono g.out.size)⟩
end
end
section
open Go.RowKit Go.Maps
theorem wm (x:ct)(w:World):(ew 162 (.map ob) (Z U x) od).run ac w= .ok (oy od) w:=by kernel_rfl
theorem iH (f v:ct)(w:World):zP 77 #[Z U f,Z U v] w (oA #[Z U f,Z U v,Z U (-1)]):=aT f v w
section
variable {T HM FM GM:bw}{m:Mo}{B:bw}{tg tg1:bw->PT}{s s1:rY}{p p1 p':PS}{w w1 w':World}
theorem su (w:World)(f v x:ct):zP 33 #[ox ob,Z U f,Z U v,Z U x] w (oy od):=by
 go_enter func33,ntmps33
 go_upto_region 1 with(fail)
 refine zQ ?_
 repeat (go_big_quiet_step ((go_at_call 77;exact bn (iH _ _ _))))
 refine eC ?_;rintro _ ⟨q,rfl⟩;have a:=zH q.h;go_wp2;go_ret;exact⟨rfl,a.out⟩
theorem lX (w:World)(h:Pm T HM FM GM m B tg s p w)(f v x:ct)(j:0<=f/\0<=v)(a:eB (aX f v))(g:iI x):
  ∃b:iv,(b=oc↔∃y:bw,x=(y:ct)/\(aX f v,y)∈p.H)/\zP 33 #[ox (oa ⟨T,0,ob⟩),Z U f,Z U v,Z U x] w (oy b):=by
 have G:¬f<0:=by omega
 have J:¬v<0:=by omega
 have K:∀q:BW w,q.w.cell? ⟨T,3,ob⟩=oa (.map (oa HM)):=λq=>(rowAt (h.grow q.h).row 3 rfl).1;have N:∀q:BW w,T<q.w.heap.size:=λq=>aa (h.grow q.h).row;have o:∀q:BW w,(ew 143 (.map (oa HM)) (oA #[Z U f,Z U v,Z U (-1)]) od).run ac q.w= .ok (s.hv (aX f v)) q.w:=λq=>(h.grow q.h).look a;obtain⟨u,d⟩:=zE (s.hv (aX f v));obtain⟨b,hb,R⟩:∃b:iv,(b=oc↔∃y:bw,x=(y:ct)/\(aX f v,y)∈p.H)/\∀q:BW w,(ew 162 u (Z U x) od).run ac q.w= .ok (oy b) q.w:=by
  have:=h.hs _ a;rw[d] at this;rcases this with⟨e,h0⟩|⟨b,c,S,e,hs,_,A,_⟩
  ·exact⟨od,⟨λh=>by simp at h,λ⟨y,_,hy⟩=>gC hy (h0 y)⟩,λq=>by rw[e];exact wm x q.w⟩
  ·refine⟨decide (x∈S),by rw[lP];exact A x,λq=> ?_⟩
   rw[e];exact(hs.ext (Ext.of_below_size (M:=λ_=>fW) q.h) (λh=>h)).look g
 rw[d] at o;refine⟨b,hb, ?_⟩;have t0:decide ((0:ct)<=f)=oc:=kh (by omega);have t1:decide ((0:ct)<=v)=oc:=kh (by omega);clear h a g hb d j;go_enter func33,ntmps33
 go_upto_region 1 with(fail)
 refine zQ ?_
 repeat (go_big_quiet_step ((go_at_call 77;exact bn (iH _ _ _))))
 refine eC ?_;rintro _ ⟨q,rfl⟩;have D:=zH q.h;go_wp2;go_ret;exact⟨rfl,D.out⟩
end
end
section
open Go.RowKit Go.Maps
theorem xR:(ac.info? 67).map (λi=>(i.zero,i.size,i.bytes))=oa (oa (oA #[Z U 0,Z U 0]),2,16):=by kernel_rfl
theorem sw (w:World)(v:bo)(n:bw)(xs:bh bo)(base:bw)(b:w.ownsRow base 67 2 v n xs)(q:∀u∈xs,u.oneCell'=oc)(hn:n<=90000):
  et ac 73 #[v] w λe w'=>∃y,e= oE y/\w'.ownsRow w.heap.size 67 2 y n xs/\bj w.heap.size w w':=by
 have pf:∀(w:World)(a:dr Addr)(n c d f:bw),(binOp .eql 62 (ot a n c) (ot ob d f)).run ac w= .ok (oy a.isNone) w:=λw a n c d f=>Lib.run_eql_slice_nil w _ _ a n c d f mL;rcases b.2 with⟨rfl,h0⟩|⟨g,cap,cur,rfl,J,A,K,N,R,Y⟩
 ·subst h0
  have hx:xs=[]:=db (by have:=b.1;omega);subst hx;clear b;go_enter func73,ntmps73;go_wp2;go_ret;exact⟨_,rfl,World.ownsRow_nil _ _ _ _,an _ _⟩
 ·have HO:=it b
  have HN:cr (xs.length=n*2):=b.1;have oR:=it q;have HG:cr (g<w.heap.size):=(aw.1 A).1;clear J A K N R Y q;have HC:cr (∀o,oa (⟨g,0,ob⟩:Addr)=oa o->∀j u,xs[j]?=oa u->(w.alloc (oB #[] 67)).cell? (o.add j)=oa u):=by
   intro o e j u hu;obtain rfl:=cN e;have:=HO.out.cells (g:=g) rfl j u hu;rw[cI,World.cell?_alloc_lt _ _ _ (by show g<_;exact HG.out)];rw[cI] at this;exact this
  have HE:cr ((w.alloc (oB #[] 67)).ownsRow w.heap.size 67 2 (ot (oa ⟨w.heap.size,0,ob⟩) 0 0) 0 []):=gu _ _ _ _ (bl _);obtain⟨i0,oS,oT,oX,oY⟩:=iu xR;clear b;go_enter func73,ntmps73
  go_wp2_with (at_builtin;refine fQ rfl _ _ 62 rfl w.heap.size 67 i0 _ 2 16 mL oS oT oX oY rfl (by decide) _ 0 [] rfl HE.out (oa ⟨g,0,ob⟩) n cap xs rfl HN.out (λh=>by cases h) HC.out oR.out (by unfold cX;omega) (by omega) (by rw[World.size_alloc];omega) ?_;intro v7 w7 D G pb;have pc:=it D;have pd:=it G;clear D G pb)
  go_ret;refine⟨_,rfl, ?_, ?_⟩
  ·have:=pc.out
   simpa using this
  ·exact((an _ _).alloc (bl _) _).grown pd.out (by rw[World.size_alloc];omega) (λk hk=>by have h9:oa w.heap.size=oa k:=hk;have:=cN h9;omega)
section
variable {T HM FM GM:bw}{m:Mo}{B:bw}{tg tg1:bw->PT}{s s1:rY}{p p1 p':PS}{w w1 w':World}
theorem oz (w:World):zS 31 #[ox ob] w (ot ob 0 0):=by
 go_enter func31,ntmps31;go_wp2;go_ret;exact⟨rfl,rfl⟩
theorem pU (w:World)(h:Pm T HM FM GM m B tg s p w)(g:p.St.length<=90000):
  et ac 31 #[ox (oa ⟨T,0,ob⟩)] w λe w'=>∃a,e= oE a/\w'.ownsRow w.heap.size 67 2 a p.St.length (p.St.flatMap Ay)/\bj w.heap.size w w':=by
 have c2:w.cell? ⟨T,2,ob⟩=oa (ot s.siA p.St.length s.siK):=(rowAt h.row 2 rfl).1;have D:=aa h.row;have j:=zH (sw w (ot s.siA p.St.length s.siK) p.St.length (p.St.flatMap Ay) B h.srow (λu o=>by
  obtain⟨q,_,b⟩:=gw.1 o;simp only[Ay,eR,List.not_mem_nil,or_false] at b;rcases b with rfl|rfl<;>rfl) g)
 clear h;go_enter func31,ntmps31
 go_wp2_with (go_at_call 73;refine j.out.mono ?_;rintro e G ⟨v,rfl,d,f⟩;have y:=zH d;have A:=zH f;clear d f)
 go_ret;exact⟨v,rfl,y.out,A.out⟩
end
end
section
open Go.RowKit Go.Maps
theorem A9 {p:Pg}{V:bh Ty}{I:bh dF}{s:Sl}{a b:bw}(h:KB p V I):
  iT (fM p V I s a b)=0/\aI (fM p V I s a b).xi=[(0,0)]/\aK 0 (fM p V I s a b).xi=[(aX 0 0,0)]/\aJ (fM p V I s a b).xi=[(aX 0 0,aX 0 1),(aX 0 2,ma 0)]:=by
 obtain⟨d,f,g,o,rfl,A,c0,D,c1,G,c2,J,c3,rfl⟩:=h;obtain⟨q,j,u,v⟩:=rJ o;cases p;simp only at d f g j;subst d f g j;obtain⟨K,y,tg,N,R⟩:=q;obtain⟨rfl,rfl⟩:y=oc/\tg=bS:=lR ..▸u;subst v;refine⟨by kernel_rfl,by kernel_rfl,by kernel_rfl,by kernel_rfl⟩
theorem Ba {w:World}{p:Pg}{V:bh Ty}{I:bh dF}{s:Sl}{f g:bw}(h:KB p V I)(y:(fM p V I s f g).inn w):qE w (fM p V I s f g):=by
 obtain⟨G,J,K,A,rfl,o,c0,q,c1,u,c2,v,c3,rfl⟩:=h;obtain⟨N,D,R,Y⟩:=rJ A;have oR:p.fs.length=1:=by rw[D];rfl
 refine⟨⟨y,by simp[fM],by simp[fM],λx a=> ?_,λx a=> ?_,λx a i d=> ?_⟩,λx a i d=> ?_,by simp[Mo.xi,gV,fM,qp,jE],by simp[fM]⟩
 ·obtain rfl:x=zA p:=by simpa[fM] using a
  show p.fs.length<=90000
  omega
 all_goals obtain rfl:x=jE p _ _ s:=by simpa[fM] using a
 ·show([(oc,bS),(oc,bS),bG].map yC).length<=90000
  decide
 ·have b:i∈([⟨12,0,0,0,0,o,c0⟩,⟨9,1,0,0,0,q,c1⟩,⟨1,2,0,0,0,u,c2⟩,⟨18,0,2,0,0,v,c3⟩]:bh dF).map dF.ins:=d
  obtain⟨j,_,rfl⟩:=eh.1 b;exact da _
 ·have b:i∈([⟨12,0,0,0,0,o,c0⟩,⟨9,1,0,0,0,q,c1⟩,⟨1,2,0,0,0,u,c2⟩,⟨18,0,2,0,0,v,c3⟩]:bh dF).map dF.ins:=d
  simp only[kj,List.map_nil,eR,List.not_mem_nil,or_false] at b;rcases b with rfl|rfl|rfl|rfl<;>refine⟨?_, ?_, ?_, ?_,λe=>gC e (by simp[dF.ins])⟩<;>(unfold iI dF.ins;dsimp only;omega)
theorem kF (w:World)(c a:cC bo)(t:eJ)(o:Obj):((w.alloc (oB c t)).alloc o).setRow w.heap.size a=(w.alloc (oB a t)).alloc o:=by
 have h:=dy World.heap (World.setRow_alloc_new w c a t);unfold World.setRow World.alloc at*;simp only at h⊢;congr 1;rw[<-h];apply Array.ext
 ·simp
 ·intro i b f
  simp only[Array.getElem_modify,Array.getElem_push];simp at b
  by_cases e:w.heap.size=i
  ·subst e
   simp
  ·rw[cy e]
   by_cases d:i<w.heap.size
   ·simp[d,show i<w.heap.size+1 by omega,e]
   ·simp[show¬i<w.heap.size+1 by omega]
theorem jl {P:gA}(w:World)(t:eJ)(c a:cC bo)(o:Obj)(b:c.size=a.size)(d:∀v∈a.toList,v.oneCell'=oc):
  (cM ⟨w.heap.size,0,ob⟩ a.toList 0).run P ((w.alloc (oB c t)).alloc o)= .ok () ((w.alloc (oB a t)).alloc o):=by
 rw[run_storeCells_from w.heap.size t a.toList 0 c _ (eA _ _ _) (by simp[b]) d];simp[kF]
def BP (m:Mo):Prop:=iT m=0/\aI m.xi=[(0,0)]/\aK 0 m.xi=[(aX 0 0,0)]/\aJ m.xi=[(aX 0 0,aX 0 1),(aX 0 2,ma 0)]
theorem wu (w:World):et ac 52 #[oe xz] w λe w'=>∃m:Mo,BP m/\qE w' m/\e= oE (.tuple #[oA #[ot m.sA m.ss.length m.sC,ot m.fA m.fs.length m.fC],oA #[Z U 0,Z U 0,Z U 0,Z U 0]])/\bj w.heap.size w w':=
 (tJ w).mono λ_ _ ⟨_,_,_,_,_,_,h1,h2,h3,h4⟩=>⟨_,A9 h1,Ba h1 h3,h2,h4⟩
theorem xS {w:World}{a b:dr Addr}{n1 n2 c1 c2:bw}{o:Obj}:∀(c:cC bo),c.size=2->(cM ⟨w.heap.size,0,ob⟩ [ot a n1 c1,ot b n2 c2] 0).run ac ((w.alloc (oB c 25)).alloc o)= .ok () ((w.alloc (oB #[ot a n1 c1,ot b n2 c2] 25)).alloc o):=λc d=>
 jl w _ c #[ot a n1 c1,ot b n2 c2] o (by rw[d];rfl) (by simp[bp])
theorem xU {w:World}{o:Obj}:∀(c:cC bo),c.size=4->(cM ⟨w.heap.size+1,0,ob⟩ [Z U 0,Z U 0,Z U 0,Z U 0] 0).run ac ((w.alloc o).alloc (oB c 113))= .ok () ((w.alloc o).alloc (oB #[Z U 0,Z U 0,Z U 0,Z U 0] 113)):=λc a=>by
 have:=jF (w:=w.alloc o) c a
 rwa [World.size_alloc] at this
theorem mE (m:Mo)(w:World)(h:qE w m)(a:iT m=0):
  et ac 30 #[oA #[ot m.sA m.ss.length m.sC,ot m.fA m.fs.length m.fC]] w λe w'=>∃D p tg s,e= oE (.tuple #[ox (oa ⟨D+3,0,ob⟩),Z U 0])/\p.St=aI m.xi/\(∀n y,(n,y)∈p.H↔Lf (aK 0 m.xi) (aJ m.xi) (cO m.xi) n y)/\Pm (D+3) D (D+1) (D+2) m (w.heap.size+1) tg s p w'/\bj w.heap.size w w':=by
 refine(ow m w h a).mono ?_;rintro e w' ⟨D,p,rfl,_,b,d,tg,s,f,hb⟩;refine⟨D,p,tg,s,rfl,b,d,f, ?_⟩;have g:bj w.heap.size w (w.alloc (oB m.cells 25)):=(an _ _).alloc (bl _) _;exact g.trans (hb.mono (fX _))
theorem jB (w:World):zP 29 #[] w (oy oc):=by
 have HT:=zH (wu w);go_enter func29,ntmps29
 go_upto_region 2 with(go_at_call 52;refine HT.out.mono ?_;rintro e w2 ⟨m,R,Y,rfl,f⟩;have pl:=xS (w:=w2) (a:=m.sA) (b:=m.fA) (n1:=m.ss.length) (n2:=m.fs.length) (c1:=m.sC) (c2:=m.fC) (o:= oB #[Z U 0,Z U 0,Z U 0,Z U 0] 113);have pm:=xU (w:=w2) (o:= oB #[ot m.sA m.ss.length m.sC,ot m.fA m.fs.length m.fC] 25);have oR:=zH f;have g:=zH R;have h:=zH Y;clear f R Y)
 obtain⟨D,v⟩:=zE w2.heap.size;obtain⟨j,q⟩:=zE ((w2.alloc (oB #[ot m.sA m.ss.length m.sC,ot m.fA m.fs.length m.fC] 25)).alloc (oB #[Z U 0,Z U 0,Z U 0,Z U 0] 113));have y:=BG q;have u:=uG q v;rw[q,v];have pn:=zH (mE m j ⟨iB.belowP h.out.ri y,h.out.wf,h.out.ni,h.out.nf⟩ g.out.1);obtain⟨c0,c1⟩:j.cell? ⟨D,0,ob⟩=oa (ot m.sA m.ss.length m.sC)/\j.cell? ⟨D,1,ob⟩=oa (ot m.fA m.fs.length m.fC):=⟨(rowAt u 0 rfl).1,(rowAt u 1 rfl).1⟩
 have po:=aa u;have oS:cr (bj w.heap.size w j):=oR.out.trans (y.mono oR.out.size);clear pl pm y u v q
 go_upto_region 3 with(go_at_call 30;refine pn.out.mono ?_;rintro e d ⟨Q,p,tg,s,rfl,hst,oT,hP,oX⟩;have pp:=zH hst;have oY:=zH oT;have A:=zH hP;have pb:=zH oX;clear hst oT hP oX)
 clear c0 c1 po;have pc:p.St.length=1:=by rw[pp.out,g.out.2.1];rfl
 have G:=pU d A.out (by omega);rw[pc] at G;have pw:=zH G;have pd:((aX 0 0,0):Nd×bw)∈p.H:=(oY.out _ _).2 (.base (by rw[g.out.2.2.1];simp));have pf:((aX 0 1,0):Nd×bw)∈p.H:=(oY.out _ _).2 (.edge (a:=aX 0 0) (by rw[g.out.2.2.2];simp) (.base (by rw[g.out.2.2.1];simp)));have px:cr (∀W,bj d.heap.size d W->zP 33 #[ox (oa ⟨Q+3,0,ob⟩),Z U 0,Z U 0,Z U 0] W (oy oc)):=λW hb=>by
  obtain⟨b,J,f⟩:=lX W (A.out.grow hb) 0 0 0 (by decide) (bH (by unfold iI;omega) (by unfold iI;omega)) (by unfold iI;omega);rw[J.2 ⟨0,rfl,pd⟩] at f;exact f
 have py:cr (∀W,bj d.heap.size d W->zP 33 #[ox (oa ⟨Q+3,0,ob⟩),Z U 0,Z U 1,Z U 0] W (oy oc)):=λW hb=>by
  obtain⟨b,J,f⟩:=lX W (A.out.grow hb) 0 1 0 (by decide) (bH (by unfold iI;omega) (by unfold iI;omega)) (by unfold iI;omega);rw[J.2 ⟨0,rfl,pf⟩] at f;exact f
 clear pc G pd pf
 go_wp2_with (go_at_call 31;refine pw.out.mono ?_;rintro e w5 ⟨v5,rfl,ph,pi⟩;obtain⟨a5,c5,pB⟩:=au ph;subst pB;have K:=zH pi;clear pi ph)
 refine(px.out w5 K.out).mono ?_;rintro e w6 ⟨rfl,pj⟩;have N:cr (bj d.heap.size d w6):=K.out.trans (pj.mono K.out.size);clear pj
 go_wp2_with fail
 refine(py.out w6 N.out).mono ?_;rintro e w7 ⟨rfl,pk⟩;have pD:cr (bj d.heap.size d w7):=N.out.trans (pk.mono N.out.size);clear pk;go_wp2;go_ret;exact⟨rfl,oS.out.trans ((pb.out.trans (pD.out.mono pb.out.size)).mono oS.out.size)⟩
end
section
open Go.RowKit Go.Maps
theorem sD (w:World)(a:dr Addr)(n c:bw):
  et ac 82 #[ot a n c] w λe w'=>e= oE (.func (.func 125) #[] #[ox (oa ⟨w.heap.size,0,ob⟩)])/\w.alloc (oB #[ot a n c] 35)=w':=by
 have b:∀(fn:Go.Fn)(first cap:cC bo)(w:World),(Instr.makeFunc fn first cap).run ac w= .ok (.func fn first cap) w:=λ_ _ _ _=>rfl;go_enter func82,ntmps82;go_wp2;go_ret;exact⟨rfl,rfl⟩
def Bb (P:World->bo->Prop)(w:World)(e:Ending)(w':World):Prop:=
 ∃D v,e= oE (.func (.func 125) #[] #[ox (oa ⟨D,0,ob⟩)])/\w.heap.size<=D/\w'.heap[D]?=oa (oB #[v] 35 (0,0))/\P w' v/\bj w.heap.size w w'
section
variable {T HM FM GM:bw}{m:Mo}{B:bw}{tg tg1:bw->PT}{s s1:rY}{p p1 p':PS}{w w1 w':World}
theorem pV (w:World)(f v:ct):et ac 39 #[ox ob,Z U f,Z U v] w (Bb (λ_ v=>v= ot ob 0 0) w):=by
 have h:=zH (jA w f v);go_enter func39,ntmps39
 go_wp2_with (first
  |(go_at_call 44;refine h.out.mono ?_;rintro e w2 ⟨rfl,b⟩;have a:=zH b;clear b)
  |(go_at_call 82;refine(sD _ _ _ _).mono ?_;rintro e j ⟨rfl,d⟩;have g:=zH d;clear d))
 go_ret;refine⟨w2.heap.size,_,rfl,a.out.size,by rw[<-g.out];exact alloc_at _ _,rfl,a.out.trans (by rw[<-g.out];exact(an _ _).alloc a.out.size _)⟩
end
end
def sF (B:bw)(b:dr Addr)(k:bw):Prop:=k=B\/∃a,b=oa a/\a.block=k
theorem sG (B cap base:bw)(b:dr Addr)(xs:bh ct)(w:World)(hb:w.heap[B]?=oa (oB #[ot b xs.length cap] 35 (0,0)))(R:bq w base (ot b xs.length cap) xs)(hn:xs.length<=1000000):
  Iter ac 125 #[ox (oa ⟨B,0,ob⟩)] vR xs (sF B b) w:=by
 intro l J Jx C W q hst Y hstx oR G;have hB:B<w.heap.size:=(aw.1 hb).1;have pd:=zH Y;have HM:=zH oR;have HJ:=zH G;have HR:cr (∀u C f,J u C f->Ext (λk=>¬sF B b k) W f->f.cell? ⟨B,0,ob⟩=oa (ot b xs.length cap)/\∀i z,xs[i]?=oa z->∃g,b=oa ⟨g,0,ob⟩/\g<f.heap.size/\f.cell? ⟨g,i,ob⟩=oa (Z U z)):=by
  intro u C f _ d;have pf:W.heap[B]?=oa (oB #[ot b xs.length cap] 35 (0,0)):=(q.block B hB).trans hb;refine⟨by rw[ci _ _ _ _ _ _ (d.heap pf (λh=>h (.inl rfl)))];rfl,λi z hi=> ?_⟩;obtain⟨g,rfl,pn,oS,ph⟩:=R.shape (by have:=(ca.1 hi).1;omega);refine⟨g,rfl,cg (cg oS q.size) d.size, ?_⟩;rw[d.cell (a:=⟨g,i,ob⟩) (by have:=q.size;show g<_;omega) (λh=>h (.inr ⟨_,rfl,rfl⟩)),q.cell (p:=⟨g,i,ob⟩) oS];exact ph i _ hi
 have po:=(HR.out [] C W G (Ext.refl _ _)).1;clear hst Y hstx oR G hb R q
 show et _ _ #[.func (.yield l) #[] #[],ox (oa ⟨B,0,ob⟩)] _ _
 go_enter func125,ntmps125
 go_wp2_with fail
 go_loopw [7] (λi wr=>∃(j:bw) (C:bw->Prop),j<=xs.length/\i= Z U (j:ct)/\J (xs.take j) C wr/\Ext (λk=>¬sF B b k) W wr) (λi _=>xs.length-(intOf i).toNat)
 case atStart=>exact⟨0,C,da _,rfl,by simpa using HJ.out,Ext.refl _ _⟩
 case round=>
  obtain⟨j,C1,hj,rfl,o,D⟩:=hrel
  by_cases pi:j<xs.length
  ·obtain⟨oT,oX⟩:=HR.out _ _ _ o D
   obtain⟨x,d⟩:∃x,xs[j]?=oa x:=⟨_,ce pi⟩
   obtain⟨g,pj,hg,oY⟩:=oX j x d;subst pj;have pp:(j:ct)<(xs.length:ct):=by omega
   have K:cr (xs.take (j+1)=xs.take j++[x]):=by unfold cr;rw[kp,d];rfl
   have pb:=zH (HM.out (xs.take j) x C1 wr o (by rw[<-K.out];exact List.take_prefix _ _));unfold vR at pb;have pk:=zH D;have N:=zH o;clear D o oX d
   go_upto_region 3 with(fail)
   refine(lB (n:=0)).1 ?_;refine iS (aj rfl (by simp) (.func (.yield l) #[] #[]) (w':=wr) (by simp[go_sem]) ?_);simp only[cE,am,aE,bb];refine aj rfl (by simp) (Z U x) (w':=wr) (by simp[go_sem]) ?_;simp only[cE,am,aE,bb];refine bX (fv:= .func (.yield l) #[] #[]) (args:=#[Z U x]) rfl (.tmp 11) #[.tmp 12] _ rfl rfl (by simp[Act.eval]) pb.out ?_;intro v y hv;simp only[cE,am,aE,bb];rcases hv with⟨rfl,C',pl,A,pc⟩|⟨rfl,A⟩
   ·refine aj rfl (by simp) (oy od) (w':=y) (by simp[go_sem]) ?_
    simp only[cE,am,aE,bb];refine fx ?_;have HN:cr (J (xs.take (j+1)) C' y/\Ext (λk=>¬sF B (oa ⟨g,0,ob⟩) k) W y):=
     ⟨by rw[K.out];exact A,pk.out.trans pc (λk hk=> .inl ((pd.out _ _ _ N.out k hk).2))⟩
    clear A pc pl oT oY;go_wp2;go_roundw
    case rel=>exact⟨j+1,C',by omega,by go_num,HN.out.1,HN.out.2⟩
    case measure=>simp[intOf];omega
   ·refine aj rfl (by simp) (oy oc) (w':=y) (by simp[go_sem]) ?_
    simp only[cE,am,aE,bb];refine fx ?_;have HF:cr (∃u,u<+:xs/\Jx u y):=⟨xs.take (j+1),List.take_prefix _ _,by rw[K.out];exact A⟩
    clear A oT oY;go_wp2
    ((try simp only[cD,Exit.then]);(try rw[eM]);(first|refine cP (de rfl _ _ _) rfl ?_|refine gb (de rfl _ _ _) rfl ?_));exact⟨_,rfl,.inr HF.out⟩
  ·have pm:j=xs.length:=by omega
   subst pm;have N:=zH o;clear o D;go_wp2
   ((try simp only[cD,Exit.then]);(try rw[eM]);(first|refine cP (de rfl _ _ _) rfl ?_|refine gb (de rfl _ _ _) rfl ?_));exact⟨_,rfl,.inl ⟨C1,by have:=N.out;rwa [dl] at this⟩⟩
section
attribute [local go_sem] Oper.semAt_some
theorem pW (tmps:cC bo)(w:World)(a:Addr)(v:bo)(b:tmps[4]?=oa (ox (oa a)))(d:w.cell? a=oa v):(mS Tryz.f11 tmps).run ac w= .ok v w:=by
 simp[mS,go_sem,b,d]
def BB (w:World)(e:Ending)(w':World):Prop:=e= oE (oy oc)/\bj w.heap.size w w'
theorem pointsNils_calls (a b:ct)(w:World):et ac 11 #[Z U a,Z U b] w (BB w):=by
 obtain⟨N,A⟩:∃N,w.heap.size=N:=⟨_,rfl⟩
 obtain⟨d,u⟩:∃d,w.alloc (oB #[oy od] 4)=d:=⟨_,rfl⟩
 have K:bj w.heap.size w d:=by rw[<-u];exact(an _ _).alloc (bl _) _
 have pn:d.heap.size=N+1:=by rw[<-u];simp[A]
 have pf:d.heap[N]?=oa (oB #[oy od] 4 (0,0)):=by rw[<-u,<-A];exact alloc_at _ _
 have R:cr (∀W,bj (N+1) d W->W.cell? ⟨N,0,ob⟩=oa (oy od)/\W.frozen? ⟨N,0,ob⟩=od/\N+1<=W.heap.size):=by
  intro W G;have h5:=(G.block N (by omega)).trans pf;exact⟨by rw[ci _ _ _ _ _ _ h5];rfl,dt _ _ _ _ _ h5,by have:=G.size;omega⟩
 have HY:cr (∀g w' (M:bw->Prop),(∀k,M k->N+1<=k)->bj (N+1) d g->Ext M (g.setCell ⟨N,0,ob⟩ (oy oc)) w'->w'.cell? ⟨N,0,ob⟩=oa (oy oc)/\BB w (oE (oy oc)) w'):=by
  intro g w' M hM hb o;have pZ:N+1<=g.heap.size:=by have:=hb.size;omega
  have h0:Ext (λk=>N<=k) w d:=Ext.of_below (by rw[A] at K;exact K);have G:Ext (λk=>N<=k) w (g.setCell ⟨N,0,ob⟩ (oy oc)):=(h0.trans (Ext.of_below hb) (λk q=> .inl (by omega))).trans (Ext.set1 _ _ _ _) (λk q=> .inl (by omega));have f:Ext (λk=>N<=k) w w':=G.trans o (λk q=> .inl (by have:=hM k q;omega));obtain⟨J,_,_⟩:=R.out g hb;refine⟨?_,rfl,by rw[A];exact f.below (by omega) (λ_ h=>h)⟩;rw[o.cell (a:=⟨N,0,ob⟩) (by rw[World.size_setCell];show N<_;omega) (λh=>by have:=hM _ h;simp only at this;omega)]
  first|exact World.cell?_setCell_same _ J|exact World.cell?_setCell_same _ _ J|exact World.cell?_setCell_same _ _ _ J
 have po:=it u;have pp:N+1<=d.heap.size:=by omega
 clear K pn pf u
 (refine dH func11 rfl ?_
  simp only[ntmps11,List.size_toArray,du,gO,Nat.reduceAdd,Nat.reduceSub,nb,
   nd,List.push_toArray,mC,ev,fN])
 go_upto_region 1 with(fail)
 rw[po.out]
 go_wp2_with fail
 go_at_call 29;refine(jB _).mono ?_;rintro e w2 ⟨rfl,ph⟩;have Y:bj (N+1) d w2:=ph.mono pp;have pw:=it Y;obtain⟨_,_,px⟩:=R.out w2 Y;clear ph Y
 go_wp2_with fail
 go_at_call 39;refine(pV w2 a b).mono ?_;rintro e W3 ⟨B,v,rfl,qe,oR,rfl,oS⟩;have pi:bj (N+1) d W3:=pw.out.trans (oS.mono px);have qk:=oS.size;have qn:N+1<=B:=by omega
 have py:=aa oR;have pB:=it (sG B 0 0 ob [] W3 oR (bq.nil _ _) (by simp));have pD:=it pi;clear pi oR oS
 go_wp2_with fail
 refine gJ (α:=ct) (gf:=125) (hf:=func125) (hname:=by rfl) (hb:=rfl) (hit:=pB.out) rfl ?hbel ?hRd (λ_=>rfl)
  (λoT C W=>C=(λ_=>fW)/\Ext (λ_=>fW) W3 W) (λ_ _ _ _=>fW) ?hI ?hIC (λ_ _ _ _ _ h _=>h.elim) (λ_=>fW) ?h0 ?hround ?hdone (λ_ _ _ _ _ _ _ _ h _=>h.elim)
 case hbel=>exact an _ _
 case hRd=>
  rintro k (rfl|⟨a,h,_⟩)
  ·exact py
  ·cases h
 case hI=>
  rintro oT C W W' ⟨rfl,f⟩ o;exact⟨rfl,f.trans o (λj hj=> .inr hj.1)⟩
 case hIC=>
  rintro oT C W ⟨rfl,f⟩ k h;exact h.elim
 case h0=>exact⟨rfl,Ext.refl _ _⟩
 case hround=>
  rintro l oT x C W hl ⟨rfl,f⟩ pH;exact gC pH.length_le (by simp)
 case hdone=>
  rintro D C2 W hD _ ⟨_,f⟩ oX;have pj:bj (N+1) d W:=pD.out.trans (f.below (by omega) (λ_ h=>h.elim));have pL:D<W.heap.size:=(aw.1 oX).1;have qq:=f.size;have pN:=it pj;have pP:=it oX;clear f pj oX
  go_wp2_with fail
  go_at_call 31;refine(oz W).mono ?_;rintro e w' ⟨rfl,rfl⟩
  go_wp2_with fail
  go_at_call 44;refine(jA W a b).mono ?_;rintro e w5 ⟨rfl,oY⟩
  go_wp2_with fail
  go_at_call 42;refine(lc w5 a).mono ?_;rintro e w6 ⟨rfl,pb⟩
  go_wp2_with fail
  go_at_call 36;refine(mD w6 a b).mono ?_;rintro e w7 ⟨rfl,pc⟩
  go_wp2_with fail
  go_at_call 33;refine(su w7 a b 0).mono ?_;rintro e w8 ⟨rfl,pk⟩;have pl:bj W.heap.size W w8:=oY.trans ((pb.trans ((pc.trans (pk.mono pc.size)).mono pb.size)).mono oY.size);have pm:=it pl;clear oY pb pc pk pl
  go_wp2_with fail
  go_at_call 29;refine(jB _).mono ?_;rintro e w9 ⟨rfl,y⟩;have y:bj W.heap.size W w9:=pm.out.trans (y.mono pm.out.size);have pd:bj (N+1) d w9:=pN.out.trans (y.mono (by omega));obtain⟨J,k9,_⟩:=R.out w9 pd;have pS:cr ((w9.setCell ⟨N,0,ob⟩ (oy oc)).heap[D]?=oa (.deferred (oa []))):=by
   unfold cr;rw[heap_setCell_other _ _ _ _ (by show D≠N;omega),y.block D pL];exact pP.out
  have pT:=it pd;clear y pd;go_wp2;refine⟨[D],rfl,by simp,by intro b hb;simp at hb;subst hb;exact pS.out,oy oc,λw' o=> ?_⟩;obtain⟨h3,h4⟩:=HY.out w9 w' (·=D) (λk q=>by omega) pT.out (o.mono (λk q=>by simpa using q));exact⟨pW _ _ _ _ rfl h3,h4⟩
end
section
open Go.ChangeShapes Go.WideShapes Go.ChangeAt Go.RowKit
theorem own_:ownKnob ac.godebug=ob:=by kernel_rfl
theorem law_post {H:Type}{enc:eJ×bo->H}{P:gA}{f:Func}{s:ChangeSpec}{W W':World}{args:cC bo}{v:bo}{a d:bh (DataW H)}{g pa pv:bh MemPlace}
  (o:DataW.Whole enc P f.params.toList s.vars od W args.toList a d g)
  (q:∀(b:bw)(u:bw->iv)(y:iv),DataW.TrodAll enc P W' b u y f.resultTypes.toList (v.resultList f.resultTypes.size) (s.fn H (a++d)).results [])
  (A:DataW.TrodAll enc P W' 0 (λb=>decide (b<W.heap.size)) oc f.params.toList args.toList (s.fn H (a++d)).args pa)
  (D:DataW.TrodVars enc P W' (λb=>decide (b<W.heap.size)) s.vars (s.fn H (a++d)).vars pv)
  (G:g=pa++pv)(hb:bj W.heap.size W W'):
  s.post enc P f od oc od od W args v W':=by
 refine⟨a,d,g,[],pa,pv,o,q _ _ _,A,D,World.keptBut_mono (λp j=>⟨j, ?_⟩) (hb.frame (·∈g)),λh=> ?_⟩
 ·rw[G,cw] at j
  exact Or.inr j
 ·exact gC h (by decide)
theorem shut_true {H:Type}{enc:eJ×bo->H}{W:World}{base:bw}{a:bw->iv}{held:iv}(b:iv):DataW.Trod enc ac W base a held 4 (.bool b) (.lit (.bool b)) []:=⟨1,by simp[DataW.trod,Value.cells,fh]⟩
end
theorem aM {a b:iv}(h:a=oc)(k:b=oc):(a&&b)=oc:=by rw[h,k];rfl
theorem pX:(laidOutB Tryz.pinned.checked.prog)=oc:=by kernel_rfl
theorem pY:(mapsRowed Tryz.pinned.checked.prog)=oc:=by kernel_rfl
theorem p9:((Rows.pointsNilsRow.inPlace==Tryz.pinned.checked.prog.inPlace 11))=oc:=by kernel_rfl
theorem oC:((Rows.pointsNilsRow.unfollowed==Tryz.pinned.checked.prog.unfollowed 11))=oc:=by kernel_rfl
theorem oD:((Rows.pointsNilsRow.recurses==Tryz.pinned.checked.prog.recurses 11))=oc:=by kernel_rfl
theorem oF:((Rows.pointsNilsRow.named==Tryz.pinned.checked.prog.varsNamed 11))=oc:=by kernel_rfl
theorem oG:((Rows.pointsNilsRow.loops==(Tryz.f11.params.toList++Rows.pointsNilsSpec.plain.varTypes Tryz.pinned.checked.prog).any (Tryz.pinned.checked.prog.loopsFrom ·)))=oc:=by kernel_rfl
theorem oH:(Tryz.pinned.checked.prog.stopsHeard)=oc:=by kernel_rfl
theorem oI:(Tryz.pinned.checked.prog.mayEnter)=oc:=by kernel_rfl
theorem oJ:((Rows.pointsNilsRow.lifted==Tryz.pinned.checked.prog.liftsFinal))=oc:=by kernel_rfl
theorem oK:((Tryz.pinned.checked.prog.make==oa Rows.pointsNilsRow.make))=oc:=by kernel_rfl
theorem pointsNils_closed:joinedFacts Tryz.pinned.checked.prog 11 Tryz.f11 Rows.pointsNilsSpec Rows.pointsNilsRow=oc:=by
 unfold joinedFacts;exact aM (aM (aM (aM (aM (aM (aM (aM (aM (aM (aM (aM (aM (aM (aM (aM (aM (aM (aM (aM (aM (aM (aM (aM (aM (aM (aM (aM (aM (aM (aM (by kernel_rfl) pX) pY) (by kernel_rfl)) (by kernel_rfl)) (by kernel_rfl)) (by kernel_rfl)) (by kernel_rfl)) (by kernel_rfl)) p9) oC) oD) oF) (by kernel_rfl)) (by kernel_rfl)) (by kernel_rfl)) oG) (by kernel_rfl)) (by kernel_rfl)) (by kernel_rfl)) (by kernel_rfl)) (by kernel_rfl)) (by kernel_rfl)) (by kernel_rfl)) oH) oI) oJ) oK) (by kernel_rfl)) (by kernel_rfl)) (by kernel_rfl)) (by kernel_rfl)
end Go.Proofs.YtjomgckjhcfbgaaGreat
