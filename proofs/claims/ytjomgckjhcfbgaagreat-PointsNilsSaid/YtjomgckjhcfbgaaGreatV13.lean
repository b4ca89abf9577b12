/- Walks. -/
import Derived.WalkSmall
import Derived.Deep.WholeRow
import Derived.Test.YtjomgckjhcfbgaaGreatV12
set_option maxRecDepth 100000
set_option maxHeartbeats 64000000
set_option linter.all false
namespace Go.Proofs.YtjomgckjhcfbgaaGreat
open Go.RowKit
open Go.Proofs.Tryz renaming prog→ac,underlying164→cq,underlying145→mu
open Go.RowKit.Below renaming refl→an
open Go renaming heap_setCell_same→aq,Value→bo,wpList_load_row→cc,run_storeCells_new→cf,cell_of_row→ci,storeCells→cM,bodyPost_ret→cP,results_cell_row→cV,results_none→de,Calls→et,TypeId→eJ,bodyPost_end→gb
open _root_ renaming List→bh,Nat→bw,Int→ct,if_neg→cy,Array→cC,if_pos→cQ,Option→dr,False→fW,Bool→iv,decide_eq_true→kh
open Go.RowKit renaming Below→bj,Hid→cr
open Go.Value renaming slice→bk,oneCell'→bp,ownBlock→eL,slice→ot,pointer→ox,bool→oy,agg→oA,int→Z
open _root_.Nat renaming le_refl→bl,lt_of_lt_of_le→cg,le_trans→cv,zero_add→cJ,zero_le→da,le_succ→fX,succ_mul→mw,eq_zero_or_pos→my,min_eq_left→m4
open _root_.List renaming getElem?_eq_some_iff→ca,getElem?_eq_getElem→ce,length_append→cm,mem_append_left→cn,mem_singleton→co,mem_append→cw,mem_of_getElem?→cA,flatMap_cons→cY,eq_nil_of_length_eq_zero→db,length_map→dd,flatMap_append→dk,length_cons→du,drop_eq_getElem_cons→ep,getElem?_append_right→eI,mem_cons→eR,mem_flatMap→gw,length_nil→gO,length_filter_le→gR,flatMap_singleton→jz,getElem?_append_left→mp,drop_length→m9
open Go.Exit renaming inBlock→cD
open Go.Addr renaming add_lit→cI
open _root_.Classical renaming byContradiction→ea
open Go.Instr renaming lookup→ew
open Go.Value.slice renaming injEq→ez
open _root_.Option renaming some→oa,none→ob
open _root_.Bool renaming true→oc,false→od
open Go.Obj renaming cells→oB
open Go.Ending renaming returned→oE
open Go.IntKind renaming i64→U
open Tryz
section
open Go.RowKit Go.Maps
theorem om (w:World):(zeroValue 211).run ac w= .ok (ot ob 0 0) w:=by kernel_rfl
theorem Pm.lookG {T HM FM GM:bw}{m:Mo}{B:bw}{tg:bw->PT}{s:rY}{p:PS}{w:World}(h:Pm T HM FM GM m B tg s p w){n:Nd}(a:eB n):(ew 145 (.map (oa GM)) (gI n) od).run ac w= .ok (s.gv n) w:=by
 obtain⟨c,q⟩:=h.gm;exact q.look iD mu (om w) a
theorem qB {α:Type}(enc:α->bh bo)(k:bw)(d:∀a,(enc a).length=k):∀(l:bh α)(i:bw)(a:α),l[i]?=oa a->∀j u,(enc a)[j]?=oa u->(l.flatMap enc)[i*k+j]?=oa u
 |[],i,a,h=>by simp at h
 |x::r,0,a,h=>λj u b=>by
  obtain rfl:x=a:=by simpa using h
  rw[cY,Nat.zero_mul,cJ,mp (ca.1 b).1];exact b
 |x::r,i+1,a,h=>λj u b=>by
  have ih:=qB enc k d r i a (by simpa using h) j u b;have e:(i+1)*k+j=k+(i*k+j):=by rw[mw];omega
  rw[cY,e,eI (by rw[d];omega),d,Nat.add_sub_cancel_left];exact ih
theorem oo {w:World}{B:bw}{e:eJ}{α:Type}(enc:α->bh bo)(k:bw)(f:∀a,(enc a).length=k){l:bh α}{b:dr Addr}{cap:bw}(h:w.ownsRow B e k (ot b l.length cap) l.length (l.flatMap enc)){i:bw}{a:α}(d:l[i]?=oa a):
  ∃g,b=oa ⟨g,0,ob⟩/\g<w.heap.size/\∀j u,(enc a)[j]?=oa u->w.cell? ⟨g,i*k+j,ob⟩=oa u:=by
 rcases nY h with⟨e,_⟩|⟨g,o,q,v⟩
 ·have:=(ca.1 d).1
  omega
 ·exact⟨g,o,q,λj u y=>v _ _ (qB enc k f l i a d j u y)⟩
end
section
open Go.RowKit Go.Maps
theorem pQ {w:World}{base:bw}{e:eJ}{size n cap:bw}{b:dr Addr}{xs j:bh bo}(h:w.ownsRow base e size (ot b (n+1) cap) (n+1) (xs++j))(d:xs.length=n*size):
  w.ownsRow base e size (ot b n cap) n xs:=by
 rcases h.2 with⟨a,f⟩|⟨g,c,cur,a,f,o,A,q,u,v⟩
 ·omega
 ·simp only[ez,true_and] at a
  obtain⟨rfl,rfl⟩:=a;refine⟨d,.inr ⟨g,cap,cur,rfl,f,o,by omega,q,u, ?_⟩⟩;have y:cur.toList.take (n*size)=(cur.toList.take ((n+1)*size)).take (n*size):=by
   rw[List.take_take,m4 (Nat.mul_le_mul_right size (fX n))]
  rw[y,v,<-d,List.take_left]
theorem wU:∀l:bh (Nd×bw),(l.flatMap zf).length=l.length*4
 |[]=>rfl
 |a::l=>by
  rw[cY,cm,wU l,du];simp only[zf,du,gO];omega
section
variable {T HM FM GM:bw}{m:Mo}{B:bw}{tg:bw->PT}{s:rY}{p:PS}{w:World}
theorem Pm.popped {td:bh (Nd×bw)}{q:Nd×bw}(h:Pm T HM FM GM m B tg s p w)(v:p.td=td++[q]):
  aQ ZA T HM FM GM m B tg {p with td:=td} w (w.setCell ⟨T,6,ob⟩ (ot s.tdA td.length s.tdC)):=by
 have G:p.td.length=td.length+1:=by rw[v];simp
 obtain⟨J,o⟩:=zE (w.setCell ⟨T,6,ob⟩ (ot s.tdA td.length s.tdC));rw[o];have d:Ext (·=T) w J:=by rw[<-o];exact Ext.set1 w T 6 _
 have y:=aq w T 6 _ _ (ot s.tdA td.length s.tdC) h.row;rw[o] at y;have f:∀{k:bw}{t:PT},tg k=t->t≠ .top->¬k=T:=λK N e=>N (by rw[<-K,e,h.t1]);have A:=h.trow;rw[G,v,dk] at A;have R:=pQ A (wU td);have D:∀k,(bk s.tdA td.length s.tdC).ownBlock=oa k->(bk s.tdA p.td.length s.tdC).ownBlock=oa k:=λk b=>by
  cases hs:s.tdA with
  |none=>rw[hs] at b;simp[eL] at b
  |some a=>rw[hs] at b;exact b
 refine⟨tg,s,⟨?_,h.hm.imp λ_ q=>q.ext d (f h.t2 (by simp)),h.fm.imp λ_ q=>q.ext d (f h.t3 (by simp)),h.gm.imp λ_ q=>q.ext d (f h.t4 (by simp)),
  af h.srow d (λj u=>f (h.t5 j u) (by simp)),af R d (λj u=>f (h.t6 j (D j u)) (by simp)),λn g=>(h.hs n g).ext d (λk e q=>f q (by simp) e),
  λn g=>(h.fs n g).ext d (λk e q=>f q (by simp) e),λn g=>(h.gs n g).ext d (λk e q=>f q (by simp) e),
  h.t1,h.t2,h.t3,h.t4,h.t5,λk b=>h.t6 k (D k b),λk b=>⟨(h.lo k b).1,cg (h.lo k b).2 d.size⟩,h.lS,h.lH, ?_⟩,d.mono (λk e=>by rw[e,h.t1];simp[ZA]),λk b=> .inl b,λ_ _=>rfl⟩
 ·exact y
 ·have:=h.lT
  show td.length<=_
  omega
theorem Pm.sited {q:ct×ct}{w1 w9:World}{d:dr Addr}{f:bw}(h:Pm T HM FM GM m B tg s p w)(lS:p.St.length+1<=1000000)
  (y:Ext (λ_=>fW) w w1)(R:Ext (λk=>(bk s.siA p.St.length s.siK).ownBlock=oa k) w1 w9)
  (Y:w9.ownsRow B 67 2 (ot d (p.St.length+1) f) (p.St.length+1) (p.St.flatMap Ay++Ay q))
  (G:∀k,(bk d (p.St.length+1) f).ownBlock=oa k->(bk s.siA p.St.length s.siK).ownBlock=oa k\/w1.heap.size<=k):
  aQ ZA T HM FM GM m B tg {p with St:=p.St++[q]} w (w9.setCell ⟨T,2,ob⟩ (ot d (p.St.length+1) f)):=by
 obtain⟨A,K⟩:=zE (w9.setCell ⟨T,2,ob⟩ (ot d (p.St.length+1) f));rw[K];have hB:=h.base;have oR:¬(bk s.siA p.St.length s.siK).ownBlock=oa T:=λe=>by have:=h.t5 T e;rw[h.t1] at this;simp at this
 have oS:Ext (·=T) w9 A:=by rw[<-K];exact Ext.set1 w9 T 2 _
 have pc:=y.heap h.row (λh=>h);have pd:=R.heap pc oR;have oT:=aq w9 T 2 _ _ (ot d (p.St.length+1) f) pd;rw[K] at oT;have pf:Ext (λk=>k=T\/(bk s.siA p.St.length s.siK).ownBlock=oa k) w1 A:=(R.mono (λk h=> .inr h)).trans oS (λk e=> .inl (.inl e));have g:Ext (λk=>k=T\/(bk s.siA p.St.length s.siK).ownBlock=oa k) w A:=(y.mono (λk h=>h.elim)).trans pf (λk e=> .inl e);have J:(p.St++[q]).length=p.St.length+1:=by simp
 obtain⟨u,N⟩:=zE (bk d (p.St.length+1) f);rw[N] at Y G;have o:∀k,tg k≠ .no->(λk=>if u.ownBlock=oa k then PT.si else tg k) k=tg k:=λk b=>by
  show(if u.ownBlock=oa k then PT.si else tg k)=tg k
  by_cases e:u.ownBlock=oa k
  ·rw[cQ e]
   rcases G k e with a|a
   ·exact(h.t5 k a).symm
   ·have:=(h.lo k b).2
    have:=y.size;omega
  ·rw[cy e]
 have v:∀{k:bw}{t:PT},tg k=t->t≠ .top->t≠ .si->¬(k=T\/(bk s.siA p.St.length s.siK).ownBlock=oa k):=λh1 q2 q3 e=>by
  rcases e with e|e
  ·exact q2 (by rw[<-h1,e,h.t1])
  ·exact q3 (by rw[<-h1];exact h.t5 _ e)
 have oX:=af Y oS (λk b e=>by
  subst e;rcases G _ b with a|a
  ·exact oR a
  ·have:=(h.lo _ (show tg _≠ .no by rw[h.t1];simp)).2
   have:=y.size;omega)
 refine⟨λk=>if u.ownBlock=oa k then .si else tg k,{s with siA:=d,siK:=f},⟨?_,h.hm.imp λ_ q=>q.ext g (v h.t2 (by simp) (by simp)),h.fm.imp λ_ q=>q.ext g (v h.t3 (by simp) (by simp)),h.gm.imp λ_ q=>q.ext g (v h.t4 (by simp) (by simp)),
  ?_,af h.trow g (λj hj=>v (h.t6 j hj) (by simp) (by simp)),λn D=>((h.hs n D).ext g (λk e q=>v q (by simp) (by simp) e)).tag o,
  λn D=>((h.fs n D).ext g (λk e q=>v q (by simp) (by simp) e)).tag (by simp) o,λn D=>((h.gs n D).ext g (λk e q=>v q (by simp) (by simp) e)).tag (by simp) o,
  (o T (by rw[h.t1];simp)).trans h.t1,(o HM (by rw[h.t2];simp)).trans h.t2,(o FM (by rw[h.t3];simp)).trans h.t3,(o GM (by rw[h.t4];simp)).trans h.t4,
  λk b=> ?_,λk b=>(o k (by rw[h.t6 k b];simp)).trans (h.t6 k b),λk b=> ?_,by show(p.St++[q]).length<=_;rw[J];exact lS,h.lH,h.lT⟩,
  g.mono (λk e=> ?_),λk b=> ?_,o⟩
 ·show A.heap[T]?=oa (oB (wT m HM FM GM {s with siA:=d,siK:=f} (p.St++[q]).length p.td.length) 148 (0,0))
  rw[J];exact oT
 ·show A.ownsRow B 67 2 (ot d (p.St++[q]).length f) (p.St++[q]).length ((p.St++[q]).flatMap Ay)
  rw[J,dk,jz,N];exact oX
 ·have oY:(bk d (p.St++[q]).length f).ownBlock=oa k:=b
  rw[J,N] at oY;exact cQ oY
 ·by_cases e:u.ownBlock=oa k
  ·exact oX.lt k e
  ·have pb:tg k≠ .no:=λa=>b (by show(if u.ownBlock=oa k then PT.si else tg k)=_;rw[cy e];exact a)
   exact⟨(h.lo k pb).1,cg (h.lo k pb).2 g.size⟩
 ·rcases e with e|e
  ·rw[e,h.t1];simp[ZA]
  ·rw[h.t5 k e];simp[ZA]
 ·by_cases e:u.ownBlock=oa k
  ·rcases G k e with a|a
   ·exact .inl (by rw[h.t5 k a];simp)
   ·exact .inr (cv y.size a)
  ·exact .inl λa=>b (by show(if u.ownBlock=oa k then PT.si else tg k)=_;rw[cy e];exact a)
end
end
section
open Go.RowKit Go.Maps
def wV (x:XI):Prop:=iI x.1/\iI x.2.1/\iI x.2.2.d/\iI x.2.2.a/\iI x.2.2.b/\iI x.2.2.f/\(x.2.2.op=15->∀y∈x.2.2.args,iI y)/\x.2.2.args.length<=40
theorem kD {n:bw}(h:n<=1000000000):iI (n:ct):=⟨by omega,by omega⟩
theorem BD:iI (-1):=⟨by omega,by omega⟩
theorem bH {f v:ct}(a:iI f)(b:iI v):eB (aX f v):=⟨a,b,BD⟩
theorem rZ {f:ct}(a:iI f):eB (ma f):=⟨a,BD,BD⟩
theorem vX {x k:ct}(a:iI x)(b:iI k):eB (mi x k):=⟨BD,a,b⟩
theorem uw {f g:ct}(hf:iI f)(d:iI g):∀(l:bh ct)(n:bw),n+l.length<=1000000->(∀y∈l,iI y)->∀e∈fZ f g n l,eB e.1/\eB e.2
 |[],_,_,_=>λe b=>by simp[fZ] at b
 |a::r,n,h,j=>λe b=>by
  unfold fZ at b;rw[du] at h;rcases eR.1 b with rfl|b
  ·exact⟨bH hf (j a (by simp)),bH d (kD (by omega))⟩
  ·exact uw hf d r (n+1) (by omega) (λy o=>j y (by simp[o])) e b
theorem Ah {x:XI}(h:wV x):∀e∈nJ x.1 x.2.2,eB e.1/\eB e.2:=by
 obtain⟨b,q,d,f,u,g,j,v⟩:=h;intro e a;unfold nJ at a
 split at a
 ·rw[co] at a;subst a;exact⟨bH b f,bH b d⟩
 split at a
 ·rename_i o
  rcases cw.1 a with a|a
  ·exact uw b g _ 0 (by omega) (j o) e a
  ·rw[co] at a;subst a;exact⟨rZ g,bH b d⟩
 split at a
 ·rw[co] at a;subst a;exact⟨bH b f,rZ b⟩
 ·simp at a
theorem Ai {x:XI}(h:wV x):∀t∈kW x.1 x.2.2,eB t.1/\iI t.2.1/\eB t.2.2.1:=by
 obtain⟨b,o,g,d,j,f,q,u⟩:=h;intro e a;unfold kW at a
 split at a
 ·rw[co] at a;subst a;exact⟨bH b d,f,bH b g⟩
 split at a
 ·rw[co] at a;subst a;exact⟨bH b d,f,bH b j⟩
 ·simp at a
theorem qD {l:bh XI}(h:∀x∈l,wV x):∀e∈aJ l,eB e.1/\eB e.2:=λe a=>by
 obtain⟨x,b,a⟩:=gw.1 a;exact Ah (h x b) e a
theorem mH {l:bh XI}(h:∀x∈l,wV x):∀t∈cO l,eB t.1/\iI t.2.1/\eB t.2.2.1:=λe a=>by
 obtain⟨x,b,a⟩:=gw.1 a;exact Ai (h x b) e a
theorem uy:∀{l:bh XI}{c:bw},(∀x∈l,wV x)->∀b∈aK c l,eB b.1
 |[],_,_=>λb hb=>by simp[aK] at hb
 |x::r,c,h=>λb hb=>by
  unfold aK at hb;rcases cw.1 hb with hb|hb
  ·unfold mq at hb
   split at hb
   ·rw[co] at hb
    subst hb;exact bH (h x (by simp)).1 (h x (by simp)).2.2.1
   ·simp at hb
  ·exact uy (λy a=>h y (by simp[a])) b hb
theorem Bw {l:bh XI}(h:∀x∈l,wV x)(f:l.length<=400){n:Nd}{x:bw}(hf:Lf (aK 0 l) (aJ l) (cO l) n x):eB n:=by
 have g:=dC (l:=l);cases hf with
 |base hb=>exact uy h _ hb
 |edge b _=>exact(qD h _ b).2
 |out a _ _=>exact(mH h _ a).2.2
 |into a d _=>exact vX (kD (by have:=eQ d;omega)) (mH h _ a).2.1
theorem xO {l:bh XI}(h:∀x∈l,wV x){n:Nd}{t:Th}{x:bw}(d:(n,t)∈cO l)(g:x<=1000000):eB (bf x t).1/\eB (bf x t).2:=by
 obtain⟨j,f,a⟩:=mH h _ d;have b:eB (mi (x:ct) t.1):=vX (kD (by omega)) f;unfold bf
 split
 ·exact⟨a,b⟩
 ·exact⟨b,a⟩
def PS.far (s:PS):bw:=2*(100000000-s.H.length)+s.td.length
theorem Aj {s:PS}{n:Nd}{x:bw}(h:(s.add n x).H.length<=100000000):(s.add n x).far<=s.far/\∀q∈s.H,q∈(s.add n x).H:=by
 obtain⟨_,_,_,d,a,b,_⟩:=iX (s:=s) (n:=n) (x:=x);unfold PS.far;rw[a,cm] at h;rw[a,b,cm,cm];exact⟨by omega,λq f=>cn _ f⟩
theorem zk {s s':PS}{a b:Nd}(hf:yX a b s s')(h:s'.H.length<=100000000):s'.far<=s.far/\(∀q∈s.H,q∈s'.H)/\s'.GL=s.GL:=by
 rcases hf with⟨_,rfl⟩|⟨_,l,_,rfl⟩
 ·exact⟨bl _,λ_ h=>h,rfl⟩
 ·obtain⟨_,_,h0,⟨d,f,g,_⟩,_⟩:=gW (n:=b) l ({s with FL:=s.FL++[(a,b)]}:PS)
  unfold PS.far;rw[f,cm] at h;rw[f,g,cm,cm];exact⟨by show 2*(100000000-(s.H.length+d.length))+(s.td.length+d.length)<=_;have o:s.H.length+d.length<=100000000:=h;omega,λq j=>cn _ j,h0⟩
theorem Ak {s:PS}{td:bh (Nd×bw)}{q:Nd×bw}(h:s.td=td++[q]):({s with td:=td}:PS).far<s.far:=by
 unfold PS.far;rw[h,cm];exact Nat.add_lt_add_left (Nat.lt_succ_self _) _
theorem uz {w:World}{base:bw}{e:eJ}{size n cap:bw}{b:dr Addr}{xs:bh bo}(h:w.ownsRow base e size (ot b n cap) n xs):n<=cap:=by
 rcases h.2 with⟨a,d⟩|⟨g,c,cur,a,d,f,j,o,q,u⟩
 ·omega
 ·simp only[ez] at a
  omega
theorem Al {td:bh (Nd×bw)}(h:0<td.length):∃t q,td=t++[q]:=⟨td.dropLast,td.getLast (List.ne_nil_of_length_pos h),(List.dropLast_concat_getLast _).symm⟩
end
section
open Go.RowKit Go.Maps
theorem fI (w:World)(c:cC bo)(a b d:ct)(f:c.size=3):(cM ⟨w.heap.size,0,ob⟩ (jK (a,b,d)) 0).run ac (w.alloc (oB c 164))= .ok () (w.alloc (oB (jK (a,b,d)).toArray 164)):=
 cf (P:=ac) w 164 c (jK (a,b,d)).toArray (by show _=oa 3;kernel_rfl) f (by simp[jK,bp])
theorem aT (f v:ct)(w:World):zP 77 #[Z U f,Z U v] w (gI (aX f v)):=by
 have hst:=λc a=>fI w c f v (-1) a;simp only[jK] at hst;go_enter func77,ntmps77;go_wp2;(try simp only[cD,Exit.then]);refine cP (cV (P:=ac) rfl _ _ w.heap.size 164 _ (0,0) _ rfl (alloc_at _ _) cq rfl (by kernel_rfl)) rfl ?_;exact⟨rfl,(an _ _).alloc (bl _) _⟩
theorem jy (f v:ct)(w:World):zP 79 #[Z U f,Z U v] w (gI (mi f v)):=by
 have hst:=λc a=>fI w c (-1) f v a;simp only[jK] at hst;go_enter func79,ntmps79;go_wp2;(try simp only[cD,Exit.then]);refine cP (cV (P:=ac) rfl _ _ w.heap.size 164 _ (0,0) _ rfl (alloc_at _ _) cq rfl (by kernel_rfl)) rfl ?_;exact⟨rfl,(an _ _).alloc (bl _) _⟩
theorem fJ (f:ct)(w:World):zP 83 #[Z U f] w (gI (ma f)):=by
 have hst:=λc a=>fI w c f (-1) (-1) a;simp only[jK] at hst;go_enter func83,ntmps83;go_wp2;(try simp only[cD,Exit.then]);refine cP (cV (P:=ac) rfl _ _ w.heap.size 164 _ (0,0) _ rfl (alloc_at _ _) cq rfl (by kernel_rfl)) rfl ?_;exact⟨rfl,(an _ _).alloc (bl _) _⟩
end
section
open Go.RowKit Go.Maps
section
variable {T HM FM GM:bw}{m:Mo}{B:bw}{tg tg1:bw->PT}{s s1:rY}{p p1 p':PS}{w w1 w':World}
theorem xP {W:World}{g j k:bw}{a b c:ct}{l:bh Nd}(h:∀i u,(jK (a,b,c))[i]?=oa u->W.cell? ⟨g,k+i,ob⟩=oa u):W.cell? ⟨g,k,ob⟩=oa (Z U a)/\W.cell? ⟨g,k+1,ob⟩=oa (Z U b)/\W.cell? ⟨g,k+2,ob⟩=oa (Z U c):=
 ⟨h 0 _ rfl,h 1 _ rfl,h 2 _ rfl⟩
def Bc (l:bh XI)(T HM FM GM:bw)(m:Mo)(B:bw)(tg:bw->PT)(n:Nd)(x:bw)(a:PS)(F:bh Nd)(G:bh Th)(j:bw)(w wr:World):Prop:=
 ∃p',J2 (aK 0 l) (aJ l) (cO l) (aI l) n x (F.drop j) G p'/\aQ ZA T HM FM GM m B tg p' w wr/\p'.FL=a.FL/\p'.GL=a.GL/\(n,x)∈p'.H/\p'.far<=a.far
theorem Bc.step {l:bh XI}{n y:Nd}{x j:bw}{a p':PS}{F:bh Nd}{G:bh Th}{tg:bw->PT}{w wr:World}(u:∀x∈l,wV x)(v:l.length<=400)(hF:a.fl n=F)(b:F[j]?=oa y)
  (d:J2 (aK 0 l) (aJ l) (cO l) (aI l) n x (F.drop j) G p')(f:p'.FL=a.FL)(A:p'.GL=a.GL)(g:(n,x)∈p'.H)(D:p'.far<=a.far)(J:aQ ZA T HM FM GM m B tg (p'.add y x) w wr):Bc l T HM FM GM m B tg n x a F G (j+1) w wr:=by
 have K:F.drop j=y::F.drop (j+1):=by
  obtain⟨h,e⟩:=ca.1 b;rw[<-e];exact ep h
 rw[K] at d;have o:=d.add g (by rw[f];exact nN.1 (by rw[hF];exact cA b));have q:=Aj (o.lens (λx h=>(u x h).2.2.2.2.2.2.2) v).1;obtain⟨Y,N,R,_⟩:=iX (s:=p') (n:=y) (x:=x);exact⟨_,o,J,N.trans f,R.trans A,q.2 _ g,cv q.1 D⟩
theorem Bc.okY {l:bh XI}{n y:Nd}{x j:bw}{a p':PS}{F:bh Nd}{G:bh Th}(b:∀x∈l,wV x)(A:l.length<=400)(hF:a.fl n=F)(d:F[j]?=oa y)
  (f:J2 (aK 0 l) (aJ l) (cO l) (aI l) n x (F.drop j) G p')(g:p'.FL=a.FL)(D:(n,x)∈p'.H):eB y:=by
 have o:(n,y)∈p'.FL:=by rw[g];exact nN.1 (by rw[hF];exact cA d)
 rcases f.flu _ o with h|⟨t,q,z,u,v⟩
 ·exact(qD b _ h).2
 ·have:=(xO b q (x:=z) (by have:=eQ u;have:=dC (l:=l);omega)).2
  rw[<-v] at this;exact this
def Az (l:bh XI)(T HM FM GM:bw)(m:Mo)(B:bw)(tg:bw->PT)(n:Nd)(x:bw)(a:PS)(G:bh Th)(j:bw)(w wr:World):Prop:=
 ∃p',J2 (aK 0 l) (aJ l) (cO l) (aI l) n x [] (G.drop j) p'/\aQ ZF T HM FM GM m B tg p' w wr/\p'.GL=a.GL/\(n,x)∈p'.H/\p'.far<=a.far
theorem Az.mem {n:Nd}{t:Th}{j:bw}{a p':PS}{G:bh Th}(b:a.gl n=G)(d:G[j]?=oa t)(f:p'.GL=a.GL):(n,t)∈p'.GL:=by
 rw[f];exact yZ.1 (by rw[b];exact cA d)
theorem Az.step {l:bh XI}{n:Nd}{t:Th}{x j:bw}{a p' d:PS}{G:bh Th}{tg:bw->PT}{w wr:World}(v:∀x∈l,wV x)(y:l.length<=400)(A:a.gl n=G)(f:G[j]?=oa t)
  (g:J2 (aK 0 l) (aJ l) (cO l) (aI l) n x [] (G.drop j) p')(o:p'.GL=a.GL)(q:(n,x)∈p'.H)(D:p'.far<=a.far)(hf:yX (bf x t).1 (bf x t).2 p' d)(J:aQ ZF T HM FM GM m B tg d w wr):Az l T HM FM GM m B tg n x a G (j+1) w wr:=by
 have K:G.drop j=t::G.drop (j+1):=by
  obtain⟨h,e⟩:=ca.1 f;rw[<-e];exact ep h
 rw[K] at g;have u:=g.flow q (Az.mem A f o) hf;have b:=zk hf (u.lens (λx h=>(v x h).2.2.2.2.2.2.2) y).1;exact⟨_,u,J,b.2.2.trans o,b.2.1 _ q,cv b.1 D⟩
theorem zl (w:World)(c:cC bo)(k a b d:ct)(e:iv)(f:c.size=5):(cM ⟨w.heap.size,0,ob⟩ [Z U k,Z U a,Z U b,Z U d,oy e] 0).run ac (w.alloc (oB c 213))= .ok () (w.alloc (oB #[Z U k,Z U a,Z U b,Z U d,oy e] 213)):=
 cf (P:=ac) w 213 c #[Z U k,Z U a,Z U b,Z U d,oy e] (by show _=oa 5;kernel_rfl) f (by simp[bp])
theorem Am {W:World}{g k:bw}{q a b c:ct}{d:iv}(h:∀i u,(AY (q,(a,b,c),d))[i]?=oa u->W.cell? ⟨g,k+i,ob⟩=oa u):W.cell? ⟨g,k,ob⟩=oa (Z U q)/\W.cell? ⟨g,k+1,ob⟩=oa (Z U a)/\W.cell? ⟨g,k+2,ob⟩=oa (Z U b)/\W.cell? ⟨g,k+3,ob⟩=oa (Z U c)/\W.cell? ⟨g,k+4,ob⟩=oa (oy d):=
 ⟨h 0 _ rfl,h 1 _ rfl,h 2 _ rfl,h 3 _ rfl,h 4 _ rfl⟩
def BX (l:bh XI)(T HM FM GM:bw)(m:Mo)(B:bw)(tg:bw->PT)(w:World)(a:bw)(wr:World):Prop:=
 ∃p1 n x,J2 (aK 0 l) (aJ l) (cO l) (aI l) n x [] [] p1/\aQ Z0 T HM FM GM m B tg p1 w wr/\p1.far<=a
theorem oq (w:World)(h:Pm T HM FM GM m B tg s p w)(l:bh XI)(hx:∀x∈l,wV x)(hl:l.length<=400)(hj:J1 l p):
  et ac 72 #[ox (oa ⟨T,0,ob⟩)] w λe w'=>e= oE (.tuple #[])/\∃p',p'.td=[]/\p'.St=p.St/\(∀m y,(m,y)∈p'.H↔Lf (aK 0 l) (aJ l) (cO l) m y)/\aQ Z0 T HM FM GM m B tg p' w w':=by
 have H:=zH h;have HJ:=zH hj;have HX:=zH hx;have HL:=zH hl;clear h hj hx hl;go_enter func72,ntmps72
 go_step3
 go_wp2
 go_step3
 go_wp2
 go_loopg [] p.far (λmm wr=>BX l T HM FM GM m B tg w mm wr)
 case atStart=>exact⟨p,aX 0 0,0,HJ.out.settled _ _,H.out.same (an _ _),bl _⟩
 case round=>
  obtain⟨p1,n0,x0,pc,xl,sf⟩:=hrel;obtain⟨tg1,s1,hP,hE,hT⟩:=xl;have pm:wr.cell? ⟨T,6,ob⟩=oa (ot s1.tdA p1.td.length s1.tdC):=(rowAt hP.row 6 rfl).1;rcases my p1.td.length with h0|h0
  ·rw[h0] at pm
   have HR:cr (∃p',p'.td=[]/\p'.St=p.St/\(∀m y,(m,y)∈p'.H↔Lf (aK 0 l) (aJ l) (cO l) m y)/\aQ Z0 T HM FM GM m B tg p' w wr):=
    ⟨p1,db h0,pc.st.trans HJ.out.st.symm,λm y=>pc.done (db h0),⟨tg1,s1,hP,hE,hT⟩⟩
   clear hP hE hT pc sf h0;go_wp2;(try simp only[Exit.noGoto]);refine gb (de rfl _ _ _) rfl ?_;exact⟨rfl,HR.out⟩
  ·obtain⟨td,⟨⟨f,o,v⟩,x⟩,pn⟩:=Al h0
   obtain⟨n,hn⟩:=zE td.length;have pN:p1.td.length=n+1:=by rw[pn,<-hn];simp
   have tE:cr (({p1 with td:=td}:PS).far<gk):=cg (Ak pn) sf;obtain⟨l1,l2,l3,l4⟩:=pc.lens (λx hx=>(HX.out x hx).2.2.2.2.2.2.2) HL.out;have sg:(((f,o,v):Nd),x)∈p1.H:=pc.tds _ (by rw[pn];simp);have sk:=pc.snd _ sg;have tG:eB (f,o,v):=Bw HX.out HL.out sk;have AF:x<=400:=by have:=eQ sk;have:=dC (l:=l);have:=HL.out;omega
   have xo:n+1<=100000000:=by omega
   obtain⟨g,hg,pd,pP⟩:=oo zf 4 (λ_=>rfl) hP.trow (i:=n) (a:=((f,o,v),x)) (by rw[pn,<-hn,eI (bl _),Nat.sub_self];rfl);rw[hg,pN] at pm;have sn:=uz hP.trow;rw[pN] at sn;have xp:n<=s1.tdC:=Nat.le_of_succ_le sn;have HP:=zH hP;have HE:=zH hE;have HT:=zH hT;have tM:=zH pc;have so:=zH pn;have HN:=zH hn;have sq:=zH pN;have tP:=zH sg;have ra:=zH tG;have HG:=zH hg;have tR:=zH pP;obtain⟨S1,rb⟩:=zE ((λW=>bj wr.heap.size wr W):World->Prop);have pS:cr (∀W,bj wr.heap.size wr W->S1 W):=λW h=>by rw[<-rb];exact h
   have xr:S1 wr.drew:=pS.out _ (an _ _).drew;have d:cr (∀W,S1 W->W.cell? ⟨T,6,ob⟩=oa (ot (oa ⟨g,0,ob⟩) (n+1) s1.tdC)/\T<W.heap.size/\g<W.heap.size):=λW A=>by
    rw[<-rb] at A;have hp:=HP.out.grow A;have:W.cell? ⟨T,6,ob⟩=oa (ot s1.tdA p1.td.length s1.tdC):=(rowAt hp.row 6 rfl).1;rw[hg,pN] at this;exact⟨this,aa hp.row,cg pd A.size⟩
   have tS:cr (∀W,S1 W->∀j u,(#[Z U f,Z U o,Z U v,Z U (x:ct)]:cC bo).toList[j]?=oa u->W.cell? ((⟨g,n*4,ob⟩:Addr).add j)=oa u):=λW A j u J=>by
    rw[<-rb] at A;rw[cI,(Ext.of_below_size (M:=λ_=>fW) A).cell (a:=⟨g,n*4+j,ob⟩) pd (λh=>h)];exact tR.out j u J
   have xt:decide ((0:ct)<(n:ct)+1)=oc:=kh (by omega);have xv:IntKind.i64.wrap (n:ct)=(n:ct):=by rw[IntKind.wrap_i64];omega
   have xF:(0:ct)<=(n:ct):=by omega
   have xT:(n:ct)<(n:ct)+1:=by omega
   clear hP hE hT pc sf h0 pn hn pN sg sk tG hg pP rb sn l1 l2 l3 l4;obtain⟨V,hV⟩:=zE wr.drew;have pj:cr (bj wr.heap.size wr V):=by rw[<-hV];exact(an _ _).drew
   have ya:S1 V:=pS.out _ pj.out;have HV:=zH hV;clear hV
   go_upto_region 1 with(fail)
   refine gp S1 (by kernel_rfl) ?_;rw[HV.out];refine yT 0 rfl d.out ?_;(try go_simp);refine yT 1 rfl d.out ?_;(try go_simp);refine yT 2 rfl d.out ?_;(try go_simp);refine yT 3 rfl d.out ?_;(try go_simp);refine yT 4 rfl d.out ?_;(try go_simp);refine yT 5 rfl d.out ?_;(try go_simp);refine yT 6 rfl d.out ?_;(try go_simp);refine yT 7 rfl d.out ?_;(try go_simp);refine yT 8 rfl d.out ?_;(try go_simp);refine yT 9 rfl d.out ?_;(try go_simp);refine yT 10 rfl d.out ?_;(try go_simp);refine yL 11 rfl 215 ⟨g,n*4,ob⟩ tS.out underlying215 ?_;(try go_simp);refine yO 12 rfl λK' hK=> ?_;go_simp;obtain⟨D,hD⟩:=zE V.heap.size;obtain⟨W1,pT⟩:=zE (V.alloc (oB #[Z U f,Z U o,Z U v,Z U (x:ct)] 215));have hst:∀c:cC bo,c.size=4->(cM ⟨D,0,ob⟩ [Z U f,Z U o,Z U v,Z U (x:ct)] 0).run ac (V.alloc (oB c 215))= .ok () W1:=λc hc=>by
    rw[<-hD,<-pT];exact cf (P:=ac) V 215 c #[Z U f,Z U o,Z U v,Z U (x:ct)] (by show _=oa 4;kernel_rfl) hc (by simp[bp])
   have tU:bj wr.heap.size wr W1:=by rw[<-pT];exact pj.out.alloc pj.out.size _
   have tW:W1.heap[D]?=oa (oB #[Z U f,Z U o,Z U v,Z U (x:ct)] 215 (0,0)):=by rw[<-pT,<-hD];exact alloc_at _ _
   have sr:=zH tU;have ua:=zH tW;have AG:wr.heap.size<=D:=by rw[<-hD];exact pj.out.size
   (try rw[hD]);refine hK _ _ (pS.out _ (pj.out.alloc pj.out.size _)) ?_;have ub:=zH pT;clear hK tU tW pT;(try go_simp);refine yO 13 rfl λK' hK=> ?_;go_simp;(try simp only[hst]);(try go_simp);(try rw[ub.out]);refine hK _ _ (pS.out _ sr.out) ?_;clear hK hst;refine⟨by kernel_rfl, ?_⟩;clear ya xr d tS xt tR HV hD pj ub pS;obtain⟨V2,rc⟩:=zE W1.drew;have re:bj wr.heap.size wr V2:=by rw[<-rc];exact sr.out.drew
   have uc:V2.heap[D]?=oa (oB #[Z U f,Z U o,Z U v,Z U (x:ct)] 215 (0,0)):=by rw[<-rc];exact ua.out
   have po:=HP.out.grow re;have c6:V2.cell? ⟨T,6,ob⟩=oa (ot s1.tdA p1.td.length s1.tdC):=(rowAt po.row 6 rfl).1;have f6:=(rowAt po.row 6 rfl).2;rw[HG.out,sq.out] at c6;obtain⟨S2,sx⟩:=zE ((λW=>W=V2):World->Prop);have yb:S2 V2:=by rw[<-sx]
   have d:cr (∀W,S2 W->W.cell? ⟨T,6,ob⟩=oa (ot (oa ⟨g,0,ob⟩) (n+1) s1.tdC)/\T<W.heap.size/\g<W.heap.size):=λW A=>by
    rw[<-sx] at A;rw[A];have:V2.cell? ⟨T,6,ob⟩=oa (ot s1.tdA p1.td.length s1.tdC):=(rowAt po.row 6 rfl).1;rw[HG.out,sq.out] at this;exact⟨this,aa po.row,cg pd re.size⟩
   have pp:=po.popped so.out;rw[HG.out,HN.out] at pp;have rh:=zH uc;have sy:=zH re;have pZ:=zH pp;have ud:=zH rc;clear uc re po pp sx rc
   go_upto_region 2 with(fail)
   refine ai 14 S2 (by kernel_rfl) ?_;rw[ud.out];refine zT 0 rfl d.out ?_;(try go_simp);refine zT 1 rfl d.out ?_;(try go_simp);refine zT 2 rfl d.out ?_;(try go_simp);refine zT 3 rfl d.out ?_;(try go_simp);refine zT 4 rfl d.out ?_;(try go_simp);refine zT 5 rfl d.out ?_;(try go_simp);refine zT 6 rfl d.out ?_;(try go_simp);refine zT 7 rfl d.out ?_;(try go_simp);refine zT 8 rfl d.out ?_;(try go_simp);refine zT 9 rfl d.out ?_;(try go_simp);refine zT 10 rfl d.out ?_;(try go_simp);refine zT 11 rfl d.out ?_;(try go_simp);refine zT 12 rfl d.out ?_;(try go_simp);refine zT 13 rfl d.out ?_;(try go_simp);refine zK rfl λK' hK=> ?_;go_simp;refine hK _ _ ?_;clear hK c6 f6;refine⟨by kernel_rfl, ?_⟩;obtain⟨W3,ue⟩:=zE (V2.setCell ⟨T,6,ob⟩ (ot (oa ⟨g,0,ob⟩) n s1.tdC));rw[ue] at pZ⊢;obtain⟨pw,s2,sB,sE,px⟩:=pZ.out;obtain⟨p2,qe⟩:=zE ({p1 with td:=td}:PS);rw[qe] at sB;have yd:cr (p2.far<gk):=by rw[<-qe];exact tE.out
   have ur:J2 (aK 0 l) (aJ l) (cO l) (aI l) (f,o,v) x (p2.fl (f,o,v)) (p2.gl (f,o,v)) p2:=by
    rw[<-qe];exact tM.out.pop so.out
   have us:(((f,o,v):Nd),x)∈p2.H:=by rw[<-qe];exact tP.out
   have uv:cr (Ext (λk=>tg1 k≠ .no/\¬Z0 (tg1 k)) wr W3):=(Ext.of_below_size sy.out).trans (sE.mono λk hk=>⟨hk.1,id⟩) (λk hk=> .inl hk);have ye:cr ((∀k,pw k≠ .no->tg1 k≠ .no\/wr.heap.size<=k)/\∀k,tg1 k≠ .no->pw k=tg1 k):=⟨λk hk=>(px.1 k hk).imp id (λh=>cv sy.out.size h),px.2⟩
   have ux:pw D= .no:=ea λe=>by
    have:=(HP.out.lo D)
    rcases px.1 D e with q|q
    ·have:=(HP.out.lo D q).2;omega
    ·have:=aa rh.out;omega
   have va:=sE.heap rh.out (λe=>by
    rcases px.1 D (by rw[px.2 D e.1];exact e.1) with q|q
    ·have:=(HP.out.lo D q).2;omega
    ·have:=aa rh.out;omega)
   have vc:=zH sB;have rj:=zH ur;have vd:=zH us;have rk:=zH ux;have sL:=zH va;clear pZ sB sE px ur us qe ux va rh ua sr sy ud ue tE tM so HN sq tP HG yb d xp xv xF xT xo pd;obtain⟨V3,sR⟩:=zE W3.drew;have oT:bj W3.heap.size W3 V3:=by rw[<-sR];exact(an _ _).drew
   have K:=vc.out.grow oT;have oX:=(oT.block D (aa sL.out)).trans sL.out;have yi:cr (Ext (λk=>tg1 k≠ .no/\¬Z0 (tg1 k)) wr V3):=uv.out.trans (Ext.of_below_size (M:=λ_=>fW) oT) (λ_ h=>h.elim);have oR:=K.lookF ra.out;unfold gI at oR;obtain⟨ao,cap,vf,rl,rm⟩:=K.fs _ ra.out;rw[vf] at oR rl rm;obtain⟨F,hF⟩:=zE (p2.fl (f,o,v));obtain⟨G,hG⟩:=zE (p2.gl (f,o,v));rw[hF] at oR rl rm;rw[hF,hG] at rj;obtain⟨S3,rn⟩:=zE ((λW=>W=V3):World->Prop);have yk:S3 V3:=by rw[<-rn]
   have d:cr (∀W,S3 W->W.cell? ⟨T,4,ob⟩=oa (.map (oa FM))/\T<W.heap.size/\D<W.heap.size/\(ew 144 (.map (oa FM)) (oA #[Z U f,Z U o,Z U v]) od).run ac W= .ok (ot ao F.length cap) W):=λW A=>by
    rw[<-rn] at A;rw[A];exact⟨(rowAt K.row 4 rfl).1,aa K.row,aa oX,oR⟩
   have qk:cr (∀W,S3 W->∀j u,(#[Z U f,Z U o,Z U v]:cC bo).toList[j]?=oa u->W.cell? ((⟨D,0,ob⟩:Addr).add j)=oa u):=λW A j u J=>by
    rw[<-rn] at A;rw[A,cI,cJ,ci _ _ _ _ _ _ oX];rcases j with _|_|_|j
    ·exact J
    ·exact J
    ·exact J
    ·simp at J
   have AH:F.length<=400000000:=by
    have:=(rj.out.lens (λx hx=>(HX.out x hx).2.2.2.2.2.2.2) HL.out).2.1;rw[<-hF];unfold PS.fl;rw[dd];exact cv (gR _ _) (by omega)
   have vh:=zH K;have qn:=zH oX;have vi:=zH rl;have vj:=zH rm;have vm:=zH hF;have ro:=zH hG;have sT:=zH sR;clear sR oT K oX oR vf rl rm hF hG rn uv vc sL pm
   go_upto_region 3 with(fail)
   refine gp S3 (by kernel_rfl) ?_;rw[sT.out];refine yT 0 rfl d.out ?_;(try go_simp);refine yT 1 rfl d.out ?_;(try go_simp);refine yT 2 rfl d.out ?_;(try go_simp);refine yT 3 rfl d.out ?_;(try go_simp);refine yT 4 rfl d.out ?_;(try go_simp);refine yL 5 rfl 164 ⟨D,0,ob⟩ qk.out cq ?_;(try go_simp);refine yT 6 rfl d.out ?_;(try go_simp);refine yT 7 rfl d.out ?_;(try go_simp);refine yT 8 rfl d.out ?_;(try go_simp);refine⟨by kernel_rfl, ?_⟩;clear d qk yk
   go_wp2_with fail
   go_loopw [48] (λc wq=>∃j:bw,j<=F.length/\c= Z U (j:ct)/\Bc l T HM FM GM m B pw (f,o,v) x p2 F G j V3 wq) (λc _=>F.length-(intOf c).toNat)
   case atStart=>exact⟨0,da _,rfl,p2,rj.out,vh.out.same (an _ _),rfl,rfl,vd.out,bl _⟩
   case round=>
    obtain⟨j,hj,rfl,p',pf,vn,rr,qq,qr,rv⟩:=hrel
    by_cases sX:j<F.length
    ·obtain⟨⟨R,Y,b3⟩,hy⟩:∃y,F[j]?=oa y:=⟨_,ce sX⟩
     have yp:(j:ct)<(F.length:ct):=by omega
     obtain⟨tg',s',qs,oS,py⟩:=vn;obtain⟨fg,rfl,sY,vp⟩:=oo jK 3 (λ_=>rfl) vi.out hy;obtain⟨y1,y2,y3⟩:=xP (W:=wr) (l:=F) (k:=j*3) (g:=fg) (j:=j) (λi u J=>by
      rw[oS.cell (a:=⟨fg,j*3+i,ob⟩) sY (λe=>e.2 (.inl ⟨_,vj.out fg rfl⟩))];exact vp i u J)
     have AI:fg<wr.heap.size:=cg sY oS.size;have vq:=Bc.okY HX.out HL.out vm.out hy pf rr qr;have pk:=oS.heap qn.out (λe=>e.1 rk.out);obtain⟨N,hN⟩:=zE wr.heap.size;obtain⟨W5,ph⟩:=zE (wr.alloc (oB #[Z U R,Z U Y,Z U b3] 164));have hst:=λc hc=>fI wr c R Y b3 hc;simp only[jK] at hst;rw[hN,show(([Z U R,Z U Y,Z U b3]:bh bo).toArray)=#[Z U R,Z U Y,Z U b3] from rfl,ph] at hst;have oY:=jJ ph;have pB:W5.heap[N]?=oa (oB #[Z U R,Z U Y,Z U b3] 164 (0,0)):=by rw[<-ph,<-hN];exact alloc_at _ _
     have qt:=(oY.block D (aa pk)).trans pk;have vr:W5.cell? ⟨D,3,ob⟩=oa (Z U (x:ct)):=(rowAt qt 3 rfl).1;have pi:=qs.grow oY;have vt:=pf.lens (λx hx=>(HX.out x hx).2.2.2.2.2.2.2) HL.out;have yq:=zH (ja W5 pi vq (x:=x) (by omega) (by omega) (by omega));have qu:=zH pB;have qv:=zH oY;have ta:=zH pf;have yr:=zH oS;have tc:=zH py;have yv:=zH rr;have te:=zH qq;have tf:=zH qr;have th:=zH rv;have HY:=zH hy;clear hy qs oS py sY vp vq pk oY pB qt pi vt pf rr qq qr rv
     go_wp2_with (first
      |(refine cc rfl 164 _ rfl N rfl 164 #[Z U R,Z U Y,Z U b3] (0,0) _ qu.out cq rfl (by kernel_rfl) ?_)
      |(go_at_call 120;refine yq.out.mono ?_;rintro e w2 ⟨rfl,pp⟩;have pZ:=zH pp;clear pp))
     go_roundw
     case rel=>exact⟨j+1,by omega,by go_num,Bc.step HX.out HL.out vm.out HY.out ta.out yv.out te.out tf.out th.out (aQ.step yr.out tc.out (aQ.below qv.out pZ.out))⟩
     case measure=>simp[intOf];omega
    ·have ti:j=F.length:=by omega
     subst ti;obtain⟨tg',s',qs,oS,py⟩:=vn;rw[m9] at pf;have tj:p'.gl (f,o,v)=G:=by rw[<-ro.out];unfold PS.gl;rw[qq]
     obtain⟨V4,tl⟩:=zE wr.drew;have oT:bj wr.heap.size wr V4:=by rw[<-tl];exact(an _ _).drew
     have K:=qs.grow oT;have vu:tg' D= .no:=ea λe=>by
      rcases py.1 D e with q|q
      ·exact q rk.out
      ·have:=aa qn.out;omega
     have oX:=(oT.block D (cg (aa qn.out) oS.size)).trans (oS.heap qn.out (λe=>e.1 rk.out));have yy:cr (Ext (λk=>pw k≠ .no/\¬Z0 (pw k)) V3 V4):=(oS.mono λk hk=>⟨hk.1,id⟩).trans (Ext.of_below_size (M:=λ_=>fW) oT) (λ_ h=>h.elim);have oR:=K.lookG ra.out;unfold gI at oR;obtain⟨yW,zc,vx,rx,rB⟩:=K.gs _ ra.out;rw[vx] at oR rx rB;rw[tj] at oR rx rB;obtain⟨S4,rI⟩:=zE ((λW=>W=V4):World->Prop);have zd:S4 V4:=by rw[<-rI]
     have d:cr (∀W,S4 W->W.cell? ⟨T,5,ob⟩=oa (.map (oa GM))/\T<W.heap.size/\D<W.heap.size/\(ew 145 (.map (oa GM)) (oA #[Z U f,Z U o,Z U v]) od).run ac W= .ok (ot yW G.length zc) W):=λW A=>by
      rw[<-rI] at A;rw[A];exact⟨(rowAt K.row 5 rfl).1,aa K.row,aa oX,oR⟩
     have qk:cr (∀W,S4 W->∀j u,(#[Z U f,Z U o,Z U v]:cC bo).toList[j]?=oa u->W.cell? ((⟨D,0,ob⟩:Addr).add j)=oa u):=λW A j u J=>by
      rw[<-rI] at A;rw[A,cI,cJ,ci _ _ _ _ _ _ oX];rcases j with _|_|_|j
      ·exact J
      ·exact J
      ·exact J
      ·simp at J
     have AK:G.length<=400:=by
      have:=(pf.lens (λx hx=>(HX.out x hx).2.2.2.2.2.2.2) HL.out).2.2.2;rw[<-tj];unfold PS.gl;rw[dd];exact cv (gR _ _) (by omega)
     have zj:=zH K;have zp:=zH oX;have zr:=zH rx;have zv:=zH rB;have ta:=zH pf;have tc:=zH py;have sT:=zH tl;have An:=zH vu;have te:=zH qq;have tf:=zH qr;have th:=zH rv;clear tl oT K oX oR vx rx rB tj rI pf py vu oS qs qq qr rv rr vi vj vh rj vd qn rk
     go_upto_region 8 with(fail)
     refine gp S4 (by kernel_rfl) ?_;rw[sT.out];refine yT 0 rfl d.out ?_;(try go_simp);refine yT 1 rfl d.out ?_;(try go_simp);refine yT 2 rfl d.out ?_;(try go_simp);refine yT 3 rfl d.out ?_;(try go_simp);refine yT 4 rfl d.out ?_;(try go_simp);refine yL 5 rfl 164 ⟨D,0,ob⟩ qk.out cq ?_;(try go_simp);refine yT 6 rfl d.out ?_;(try go_simp);refine yT 7 rfl d.out ?_;(try go_simp);refine yT 8 rfl d.out ?_;(try go_simp);refine⟨by kernel_rfl, ?_⟩;clear d qk zd
     go_wp2_with fail
     go_loopw [66] (λc wq=>∃j:bw,j<=G.length/\c= Z U (j:ct)/\Az l T HM FM GM m B tg' (f,o,v) x p2 G j V4 wq) (λc _=>G.length-(intOf c).toNat)
     case atStart=>exact⟨0,da _,rfl,p',ta.out,zj.out.same (an _ _),te.out,tf.out,th.out⟩
     case round=>
      obtain⟨j,hj,rfl,p4,pD,tm,rK,tn,rL⟩:=hrel
      by_cases sX:j<G.length
      ·obtain⟨⟨q,⟨R,Y,b3⟩,b⟩,hy⟩:∃y,G[j]?=oa y:=⟨_,ce sX⟩
       have yp:(j:ct)<(G.length:ct):=by omega
       obtain⟨As,s5,pi,pl,rN⟩:=tm;obtain⟨gg,rfl,pd,pP⟩:=oo AY 5 (λ_=>rfl) zr.out hy;obtain⟨y1,y2,y3,y4,y5⟩:=Am (W:=wr) (k:=j*5) (g:=gg) (λi u J=>by
        rw[pl.cell (a:=⟨gg,j*5+i,ob⟩) pd (λe=>e.2 ⟨_,zv.out gg rfl⟩)];exact pP i u J)
       have AM:gg<wr.heap.size:=cg pd pl.size;have vy:(((f,o,v):Nd),((q,(R,Y,b3),b):Th))∈cO l:=by
        have:=Az.mem ro.out hy rK;rw[pD.gl] at this;exact this
       have tp:=mH HX.out _ vy;have wa:eB (R,Y,b3):=tp.2.2;have wb:eB (-1,(x:ct),q):=vX (kD (by omega)) tp.2.1;have pk:=pl.heap zp.out (λe=>e.1 An.out);obtain⟨N,hN⟩:=zE wr.heap.size;obtain⟨W5,ph⟩:=zE (wr.alloc (oB #[Z U q,Z U R,Z U Y,Z U b3,oy b] 213));have hst:=λc hc=>zl wr c q R Y b3 b hc;rw[hN,ph] at hst;have oY:=jJ ph;have pB:W5.heap[N]?=oa (oB #[Z U q,Z U R,Z U Y,Z U b3,oy b] 213 (0,0)):=by rw[<-ph,<-hN];exact alloc_at _ _
       have qt:=(oY.block D (aa pk)).trans pk;have vr:W5.cell? ⟨D,3,ob⟩=oa (Z U (x:ct)):=(rowAt qt 3 rfl).1;have At:W5.cell? ⟨N,0,ob⟩=oa (Z U q):=(rowAt pB 0 rfl).1;have we:=pi.grow oY;have Ax:=zH (jy (x:ct) q W5);have qu:=zH pB;have qv:=zH oY;have AD:=zH we;have pb:=zH pD;have wg:=zH pl;have wi:=zH rN;have wj:=zH rK;have wk:=zH tn;have wl:=zH rL;have HY:=zH hy;have wn:=zH wa;have ws:=zH wb;clear pi pl rN pd pP vy tp wa wb pk oY pB qt we pD rK tn rL hy
       go_upto_if 76 with(first
        |(go_at_call 79;refine Ax.out.mono ?_;rintro e W6 ⟨rfl,wx⟩;have pH:=zH wx;clear wx;obtain⟨N6,tr⟩:=zE W6.heap.size;obtain⟨W7,pL⟩:=zE (W6.alloc (oB #[Z U (-1),Z U (x:ct),Z U q] 164));have tt:=λc hc=>fI W6 c (-1) (x:ct) q hc;simp only[jK] at tt;rw[tr,show(([Z U (-1),Z U (x:ct),Z U q]:bh bo).toArray)=#[Z U (-1),Z U (x:ct),Z U q] from rfl,pL] at tt;have tv:=((jJ pL).block N (cg (aa qu.out) pH.out.size)).trans ((pH.out.block N (aa qu.out)).trans qu.out);have xa:W7.cell? ⟨N,4,ob⟩=oa (oy b):=(rowAt tv 4 rfl).1;have tz:=zH tv;clear tv;simp only[gI,mi]))
       have xd:bj wr.heap.size wr W7:=qv.out.trans ((pH.out.mono qv.out.size).trans ((jJ pL).mono (cv qv.out.size pH.out.size)));have rS:W7.heap[N6]?=oa (oB #[Z U (-1),Z U (x:ct),Z U q] 164 (0,0)):=by rw[<-pL,<-tr];exact alloc_at _ _
       have AN:W7.cell? ⟨N6,0,ob⟩=oa (Z U (-1)):=(rowAt rS 0 rfl).1;have AS:W7.cell? ⟨N6,1,ob⟩=oa (Z U (x:ct)):=(rowAt rS 1 rfl).1;have AT:W7.cell? ⟨N6,2,ob⟩=oa (Z U q):=(rowAt rS 2 rfl).1;have AW:W7.cell? ⟨N,1,ob⟩=oa (Z U R):=(rowAt tz.out 1 rfl).1;have A0:W7.cell? ⟨N,2,ob⟩=oa (Z U Y):=(rowAt tz.out 2 rfl).1;have A1:W7.cell? ⟨N,3,ob⟩=oa (Z U b3):=(rowAt tz.out 3 rfl).1;have se:=AD.out.grow ((pH.out).trans ((jJ pL).mono pH.out.size));have vt:=pb.out.lens (λx hx=>(HX.out x hx).2.2.2.2.2.2.2) HL.out;have A2:=dC (l:=l);have A3:=HL.out;have xf:=zH xd;clear xd rS tt hst pL ph tr hN vr At;cases b with
       |false=>
        clear xa;have tA:=zH (cZ W7 se ws.out wn.out (λn y h=>by have:=eQ (pb.out.snd _ h);omega) (by omega) (by omega) (by omega));clear se
        go_wp2_with (first
         |(go_at_call 119;refine tA.out.mono ?_;rintro e w8 ⟨rfl,p5,qS,qT⟩;have tB:=zH qT;have tD:=zH qS;clear qT qS))
        go_roundw
        case rel=>exact⟨j+1,by omega,by go_num,Az.step HX.out HL.out ro.out HY.out pb.out wj.out wk.out wl.out tD.out (aQ.step wg.out wi.out (aQ.below xf.out tB.out))⟩
        case measure=>simp[intOf];omega
       |true=>
        clear xa;have tA:=zH (cZ W7 se wn.out ws.out (λn y h=>by have:=eQ (pb.out.snd _ h);omega) (by omega) (by omega) (by omega));clear se
        go_wp2_with (first
         |(go_at_call 119;refine tA.out.mono ?_;rintro e w8 ⟨rfl,p5,qS,qT⟩;have tB:=zH qT;have tD:=zH qS;clear qT qS))
        go_roundw
        case rel=>exact⟨j+1,by omega,by go_num,Az.step HX.out HL.out ro.out HY.out pb.out wj.out wk.out wl.out tD.out (aQ.step wg.out wi.out (aQ.below xf.out tB.out))⟩
        case measure=>simp[intOf];omega
      ·have ti:j=G.length:=by omega
       subst ti;rw[m9] at pD;have xj:cr (aQ Z0 T HM FM GM m B tg p4 w wr):=aQ.step HE.out HT.out (aQ.step yi.out ye.out (aQ.step yy.out tc.out (tm.weak λ_ h=>h.elim)));obtain⟨As,s5,pi,pl,rN⟩:=tm;have pm:wr.cell? ⟨T,6,ob⟩=oa (ot s5.tdA p4.td.length s5.tdC):=(rowAt pi.row 6 rfl).1;have pb:=zH pD;have AE:cr (p4.far<gk):=Nat.lt_of_le_of_lt rL yd.out;clear pi pl rN pD rK tn rL;rcases my p4.td.length with h0|h0
       ·rw[h0] at pm
        have HR:cr (∃p',p'.td=[]/\p'.St=p.St/\(∀m y,(m,y)∈p'.H↔Lf (aK 0 l) (aJ l) (cO l) m y)/\aQ Z0 T HM FM GM m B tg p' w wr):=
         ⟨p4,db h0,pb.out.st.trans HJ.out.st.symm,λm y=>pb.out.done (db h0),xj.out⟩
        clear h0;go_wp2;(try simp only[Exit.noGoto]);refine gb (de rfl _ _ _) rfl ?_;exact⟨rfl,HR.out⟩
       ·obtain⟨k,hk⟩:=zE p4.td.length
        rw[hk] at pm h0;have A4:((k:ct)==0)=od:=by simp;omega
        have A5:¬(k:ct)=0:=by omega
        clear hk;go_wp2
        go_roundg p4.far
        case measure=>exact AE.out
        case rel=>exact⟨p4,(f,o,v),x,pb.out,xj.out,bl _⟩
end
end
end Go.Proofs.YtjomgckjhcfbgaaGreat
