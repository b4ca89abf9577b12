/- Walks. -/
import Derived.WalkSmall
import Derived.Deep.WholeRow
import Derived.Test.YtjomgckjhcfbgaaGreatY15
set_option maxRecDepth 100000
set_option maxHeartbeats 64000000
set_option linter.all false
namespace Go.Proofs.YtjomgckjhcfbgaaGreat
open Go.RowKit
open Go.Proofs.Tryz renaming prog→ac,underlying164→cX,underlying145→rb
open _root_.List renaming getElem?_eq_getElem→am,getElem?_eq_some_iff→ap,mem_of_getElem?→cf,length_append→cw,mem_singleton→cH,mem_append_left→cM,mem_append→cT,eq_nil_of_length_eq_zero→du,length_map→ei,flatMap_cons→el,mem_flatMap→em,getElem?_append_right→et,flatMap_append→eK,drop_eq_getElem_cons→eR,mem_cons→fy,length_cons→fS,getElem?_append_left→gR,length_filter_le→ki,length_nil→mp,flatMap_singleton→oa,drop_length→qs
open Go.RowKit.Below renaming refl→aq
open Go.RowKit renaming Below→bh,Hid→cm
open Go renaming heap_setCell_same→bk,cell_of_row→cc,Value→cd,wpList_load_row→ci,run_storeCells_new→ct,storeCells→dr,bodyPost_ret→dv,results_cell_row→eI,results_none→fa,Calls→gd,TypeId→gx,bodyPost_end→kA
open _root_.Nat renaming lt_of_lt_of_le→bl,le_refl→ce,zero_le→cN,zero_add→cV,le_trans→cY,le_succ→ip,sub_self→m6,lt_succ_self→pf,succ_mul→re,eq_zero_or_pos→rj,min_eq_left→sx
open _root_ renaming List→bm,Int→bp,Nat→bx,if_neg→cE,if_pos→cR,Array→da,decide_eq_true→ef,Option→eA,False→mb,Bool→nj
open Go.Value renaming oneCell'→cj,slice→co,ownBlock→eJ,slice→tP,pointer→tR,bool→tU,agg→tW,int→Z
open Go.Exit renaming inBlock→db
open Go.Addr renaming add_lit→dc
open _root_.Classical renaming byContradiction→er
open Go.Value.slice renaming injEq→gj
open Go.Instr renaming lookup→gC
open Go.IntKind renaming wrap_i64→jx,i64→me,i64→U
open _root_.Option renaming some→tB,none→tD
open _root_.Bool renaming true→tE,false→tG
open Go.Obj renaming cells→ua
open Go.Ending renaming returned→ub
open Tryz
section
open Go.RowKit Go.Maps
theorem tK (w:World):(zeroValue 211).run ac w= .ok (tP tD 0 0) w:=by kernel_rfl
theorem Pm.lookG {T HM FM GM:bx}{m:Mo}{B:bx}{tg:bx->PT}{s:yx}{p:PS}{w:World}(h:Pm T HM FM GM m B tg s p w){n:Nd}(d:gT n):(gC 145 (.map (tB GM)) (kS n) tG).run ac w= .ok (s.gv n) w:=by
 obtain⟨c,q⟩:=h.gm;exact q.look kU rb (tK w) d
theorem wN {α:Type}(enc:α->bm cd)(k:bx)(f:∀a,(enc a).length=k):∀(l:bm α)(i:bx)(a:α),l[i]?=tB a->∀j u,(enc a)[j]?=tB u->(l.flatMap enc)[i*k+j]?=tB u
 |[],i,a,h=>by simp at h
 |x::r,0,a,h=>λj u d=>by
  obtain rfl:x=a:=by simpa using h
  rw[el,Nat.zero_mul,cV,gR (ap.1 d).1];exact d
 |x::r,i+1,a,h=>λj u d=>by
  have ih:=wN enc k f r i a (by simpa using h) j u d;have e:(i+1)*k+j=k+(i*k+j):=by rw[re];omega
  rw[el,e,et (by rw[f];omega),f,Nat.add_sub_cancel_left];exact ih
theorem iI {w:World}{B:bx}{e:gx}{α:Type}(enc:α->bm cd)(k:bx)(q:∀a,(enc a).length=k){l:bm α}{d:eA Addr}{cap:bx}(h:w.ownsRow B e k (tP d l.length cap) l.length (l.flatMap enc)){i:bx}{a:α}(f:l[i]?=tB a):
  ∃g,d=tB ⟨g,0,tD⟩/\g<w.heap.size/\∀j u,(enc a)[j]?=tB u->w.cell? ⟨g,i*k+j,tD⟩=tB u:=by
 rcases tC h with⟨e,_⟩|⟨g,v,A,D⟩
 ·have:=(ap.1 f).1
  omega
 ·exact⟨g,v,A,λj u G=>D _ _ (wN enc k q l i a f j u G)⟩
end
section
open Go.RowKit Go.Maps
theorem vM {w:World}{base:bx}{e:gx}{size n cap:bx}{f:eA Addr}{xs v:bm cd}(h:w.ownsRow base e size (tP f (n+1) cap) (n+1) (xs++v))(q:xs.length=n*size):
  w.ownsRow base e size (tP f n cap) n xs:=by
 rcases h.2 with⟨d,u⟩|⟨g,c,cur,d,u,A,h4,D,G,J⟩
 ·omega
 ·simp only[gj,true_and] at d
  obtain⟨rfl,rfl⟩:=d;refine⟨q,.inr ⟨g,cap,cur,rfl,u,A,by omega,D,G, ?_⟩⟩;have h8:cur.toList.take (n*size)=(cur.toList.take ((n+1)*size)).take (n*size):=by
   rw[List.take_take,sx (Nat.mul_le_mul_right size (ip n))]
  rw[h8,J,<-q,List.take_left]
theorem Cy:∀l:bm (Nd×bx),(l.flatMap EK).length=l.length*4
 |[]=>rfl
 |a::l=>by
  rw[el,cw,Cy l,fS];simp only[EK,fS,mp];omega
section
variable {T HM FM GM:bx}{m:Mo}{B:bx}{tg:bx->PT}{s:yx}{p:PS}{w:World}
theorem Pm.popped {td:bm (Nd×bx)}{q:Nd×bx}(h:Pm T HM FM GM m B tg s p w)(G:p.td=td++[q]):
  bF ZA T HM FM GM m B tg {p with td:=td} w (w.setCell ⟨T,6,tD⟩ (tP s.tdA td.length s.tdC)):=by
 have ue:p.td.length=td.length+1:=by rw[G];simp
 obtain⟨WF,A⟩:=zE (w.setCell ⟨T,6,tD⟩ (tP s.tdA td.length s.tdC));rw[A];have f:Ext (·=T) w WF:=by rw[<-A];exact Ext.set1 w T 6 _
 have J:=bk w T 6 _ _ (tP s.tdA td.length s.tdC) h.row;rw[A] at J;have u:∀{k:bx}{t:PT},tg k=t->t≠ .top->¬k=T:=λh1 q2 e=>q2 (by rw[<-h1,e,h.t1]);have uc:=h.trow;rw[ue,G,eK] at uc;have ur:=vM uc (Cy td);have ud:∀k,(co s.tdA td.length s.tdC).ownBlock=tB k->(co s.tdA p.td.length s.tdC).ownBlock=tB k:=λk d=>by
  cases hs:s.tdA with
  |none=>rw[hs] at d;simp[eJ] at d
  |some a=>rw[hs] at d;exact d
 refine⟨tg,s,⟨?_,h.hm.imp λ_ q=>q.ext f (u h.t2 (by simp)),h.fm.imp λ_ q=>q.ext f (u h.t3 (by simp)),h.gm.imp λ_ q=>q.ext f (u h.t4 (by simp)),
  af h.srow f (λj D=>u (h.t5 j D) (by simp)),af ur f (λj D=>u (h.t6 j (ud j D)) (by simp)),λn v=>(h.hs n v).ext f (λk e q=>u q (by simp) e),
  λn v=>(h.fs n v).ext f (λk e q=>u q (by simp) e),λn v=>(h.gs n v).ext f (λk e q=>u q (by simp) e),
  h.t1,h.t2,h.t3,h.t4,h.t5,λk d=>h.t6 k (ud k d),λk d=>⟨(h.lo k d).1,bl (h.lo k d).2 f.size⟩,h.lS,h.lH, ?_⟩,f.mono (λk e=>by rw[e,h.t1];simp[ZA]),λk d=> .inl d,λ_ _=>rfl⟩
 ·exact J
 ·have:=h.lT
  show td.length<=_
  omega
theorem Pm.sited {q:bp×bp}{w1 w9:World}{f:eA Addr}{u:bx}(h:Pm T HM FM GM m B tg s p w)(lS:p.St.length+1<=1000000)
  (J:Ext (λ_=>mb) w w1)(uv:Ext (λk=>(co s.siA p.St.length s.siK).ownBlock=tB k) w1 w9)
  (h9:w9.ownsRow B 67 2 (tP f (p.St.length+1) u) (p.St.length+1) (p.St.flatMap pR++pR q))
  (uc:∀k,(co f (p.St.length+1) u).ownBlock=tB k->(co s.siA p.St.length s.siK).ownBlock=tB k\/w1.heap.size<=k):
  bF ZA T HM FM GM m B tg {p with St:=p.St++[q]} w (w9.setCell ⟨T,2,tD⟩ (tP f (p.St.length+1) u)):=by
 obtain⟨WF,ue⟩:=zE (w9.setCell ⟨T,2,tD⟩ (tP f (p.St.length+1) u));rw[ue];have hB:=h.base;have ux:¬(co s.siA p.St.length s.siK).ownBlock=tB T:=λe=>by have:=h.t5 T e;rw[h.t1] at this;simp at this
 have va:Ext (·=T) w9 WF:=by rw[<-ue];exact Ext.set1 w9 T 2 _
 have vi:=J.heap h.row (λh=>h);have vj:=uv.heap vi ux;have vc:=bk w9 T 2 _ _ (tP f (p.St.length+1) u) vj;rw[ue] at vc;have vm:Ext (λk=>k=T\/(co s.siA p.St.length s.siK).ownBlock=tB k) w1 WF:=(uv.mono (λk h=> .inr h)).trans va (λk e=> .inl (.inl e));have v:Ext (λk=>k=T\/(co s.siA p.St.length s.siK).ownBlock=tB k) w WF:=(J.mono (λk h=>h.elim)).trans vm (λk e=> .inl e);have ud:(p.St++[q]).length=p.St.length+1:=by simp
 obtain⟨D,ur⟩:=zE (co f (p.St.length+1) u);rw[ur] at h9 uc;have A:∀k,tg k≠ .no->(λk=>if D.ownBlock=tB k then PT.si else tg k) k=tg k:=λk d=>by
  show(if D.ownBlock=tB k then PT.si else tg k)=tg k
  by_cases e:D.ownBlock=tB k
  ·rw[cR e]
   rcases uc k e with a|a
   ·exact(h.t5 k a).symm
   ·have:=(h.lo k d).2
    have:=J.size;omega
  ·rw[cE e]
 have G:∀{k:bx}{t:PT},tg k=t->t≠ .top->t≠ .si->¬(k=T\/(co s.siA p.St.length s.siK).ownBlock=tB k):=λh1 q2 q3 e=>by
  rcases e with e|e
  ·exact q2 (by rw[<-h1,e,h.t1])
  ·exact q3 (by rw[<-h1];exact h.t5 _ e)
 have vd:=af h9 va (λk d e=>by
  subst e;rcases uc _ d with a|a
  ·exact ux a
  ·have:=(h.lo _ (show tg _≠ .no by rw[h.t1];simp)).2
   have:=J.size;omega)
 refine⟨λk=>if D.ownBlock=tB k then .si else tg k,{s with siA:=f,siK:=u},⟨?_,h.hm.imp λ_ q=>q.ext v (G h.t2 (by simp) (by simp)),h.fm.imp λ_ q=>q.ext v (G h.t3 (by simp) (by simp)),h.gm.imp λ_ q=>q.ext v (G h.t4 (by simp) (by simp)),
  ?_,af h.trow v (λj hj=>G (h.t6 j hj) (by simp) (by simp)),λn hn=>((h.hs n hn).ext v (λk e q=>G q (by simp) (by simp) e)).tag A,
  λn hn=>((h.fs n hn).ext v (λk e q=>G q (by simp) (by simp) e)).tag (by simp) A,λn hn=>((h.gs n hn).ext v (λk e q=>G q (by simp) (by simp) e)).tag (by simp) A,
  (A T (by rw[h.t1];simp)).trans h.t1,(A HM (by rw[h.t2];simp)).trans h.t2,(A FM (by rw[h.t3];simp)).trans h.t3,(A GM (by rw[h.t4];simp)).trans h.t4,
  λk d=> ?_,λk d=>(A k (by rw[h.t6 k d];simp)).trans (h.t6 k d),λk d=> ?_,by show(p.St++[q]).length<=_;rw[ud];exact lS,h.lH,h.lT⟩,
  v.mono (λk e=> ?_),λk d=> ?_,A⟩
 ·show WF.heap[T]?=tB (ua (Cx m HM FM GM {s with siA:=f,siK:=u} (p.St++[q]).length p.td.length) 148 (0,0))
  rw[ud];exact vc
 ·show WF.ownsRow B 67 2 (tP f (p.St++[q]).length u) (p.St++[q]).length ((p.St++[q]).flatMap pR)
  rw[ud,eK,oa,ur];exact vd
 ·have vf:(co f (p.St++[q]).length u).ownBlock=tB k:=d
  rw[ud,ur] at vf;exact cR vf
 ·by_cases e:D.ownBlock=tB k
  ·exact vd.lt k e
  ·have vh:tg k≠ .no:=λa=>d (by show(if D.ownBlock=tB k then PT.si else tg k)=_;rw[cE e];exact a)
   exact⟨(h.lo k vh).1,bl (h.lo k vh).2 v.size⟩
 ·rcases e with e|e
  ·rw[e,h.t1];simp[ZA]
  ·rw[h.t5 k e];simp[ZA]
 ·by_cases e:D.ownBlock=tB k
  ·rcases uc k e with a|a
   ·exact .inl (by rw[h.t5 k a];simp)
   ·exact .inr (cY J.size a)
  ·exact .inl λa=>d (by show(if D.ownBlock=tB k then PT.si else tg k)=_;rw[cE e];exact a)
end
end
section
open Go.RowKit Go.Maps
def Cz (x:XI):Prop:=fO x.1/\fO x.2.1/\fO x.2.2.d/\fO x.2.2.a/\fO x.2.2.b/\fO x.2.2.f/\(x.2.2.op=15->∀y∈x.2.2.args,fO y)/\x.2.2.args.length<=40
theorem oZ {n:bx}(h:n<=1000000000):fO (n:bp):=⟨by omega,by omega⟩
theorem Iw:fO (-1):=⟨by omega,by omega⟩
theorem bY {f v:bp}(d:fO f)(h:fO v):gT (av f v):=⟨d,h,Iw⟩
theorem qh {f:bp}(d:fO f):gT (cZ f):=⟨d,Iw,Iw⟩
theorem tL {x k:bp}(d:fO x)(f:fO k):gT (bN x k):=⟨Iw,d,f⟩
theorem Ak {f g:bp}(q:fO f)(u:fO g):∀(l:bm bp)(n:bx),n+l.length<=1000000->(∀y∈l,fO y)->∀e∈gu f g n l,gT e.1/\gT e.2
 |[],_,_,_=>λe d=>by simp[gu] at d
 |a::r,n,h,v=>λe d=>by
  unfold gu at d;rw[fS] at h;rcases fy.1 d with rfl|d
  ·exact⟨bY q (v a (by simp)),bY u (oZ (by omega))⟩
  ·exact Ak q u r (n+1) (by omega) (λy A=>v y (by simp[A])) e d
theorem F3 {x:XI}(h:Cz x):∀e∈iU x.1 x.2.2,gT e.1/\gT e.2:=by
 obtain⟨f,G,q,u,J,v,A,h8⟩:=h;intro e d;unfold iU at d
 split at d
 ·rw[cH] at d;subst d;exact⟨bY f u,bY f q⟩
 split at d
 ·rename_i D
  rcases cT.1 d with d|d
  ·exact Ak f v _ 0 (by omega) (A D) e d
  ·rw[cH] at d;subst d;exact⟨qh v,bY f q⟩
 split at d
 ·rw[cH] at d;subst d;exact⟨bY f u,qh f⟩
 ·simp at d
theorem F4 {x:XI}(h:Cz x):∀t∈jo x.1 x.2.2,gT t.1/\fO t.2.1/\gT t.2.2.1:=by
 obtain⟨f,D,v,q,A,u,G,J⟩:=h;intro e d;unfold jo at d
 split at d
 ·rw[cH] at d;subst d;exact⟨bY f q,u,bY f v⟩
 split at d
 ·rw[cH] at d;subst d;exact⟨bY f q,u,bY f A⟩
 ·simp at d
theorem wO {l:bm XI}(h:∀x∈l,Cz x):∀e∈aV l,gT e.1/\gT e.2:=λe d=>by
 obtain⟨x,f,d⟩:=em.1 d;exact F3 (h x f) e d
theorem rC {l:bm XI}(h:∀x∈l,Cz x):∀t∈eP l,gT t.1/\fO t.2.1/\gT t.2.2.1:=λe d=>by
 obtain⟨x,f,d⟩:=em.1 d;exact F4 (h x f) e d
theorem Al:∀{l:bm XI}{c:bx},(∀x∈l,Cz x)->∀b∈aN c l,gT b.1
 |[],_,_=>λb d=>by simp[aN] at d
 |x::r,c,h=>λb d=>by
  unfold aN at d;rcases cT.1 d with d|d
  ·unfold mi at d
   split at d
   ·rw[cH] at d
    subst d;exact bY (h x (by simp)).1 (h x (by simp)).2.2.1
   ·simp at d
  ·exact Al (λy f=>h y (by simp[f])) b d
theorem Ia {l:bm XI}(h:∀x∈l,Cz x)(A:l.length<=400){n:Nd}{x:bx}(f:Lf (aN 0 l) (aV l) (eP l) n x):gT n:=by
 have D:=dN (l:=l);cases f with
 |base q=>exact Al h _ q
 |edge u _=>exact(wO h _ u).2
 |out d _ _=>exact(rC h _ d).2.2
 |into d v _=>exact tL (oZ (by have:=ed v;omega)) (rC h _ d).2.1
theorem Dv {l:bm XI}(h:∀x∈l,Cz x){n:Nd}{t:Th}{x:bx}(q:(n,t)∈eP l)(v:x<=1000000):gT (bQ x t).1/\gT (bQ x t).2:=by
 obtain⟨A,u,d⟩:=rC h _ q;have f:gT (bN (x:bp) t.1):=tL (oZ (by omega)) u;unfold bQ
 split
 ·exact⟨d,f⟩
 ·exact⟨f,d⟩
def PS.far (s:PS):bx:=2*(100000000-s.H.length)+s.td.length
theorem F5 {s:PS}{n:Nd}{x:bx}(h:(s.add n x).H.length<=100000000):(s.add n x).far<=s.far/\∀q∈s.H,q∈(s.add n x).H:=by
 obtain⟨_,_,_,d,f,u,_⟩:=mq (s:=s) (n:=n) (x:=x);unfold PS.far;rw[f,cw] at h;rw[f,u,cw,cw];exact⟨by omega,λq v=>cM _ v⟩
theorem EO {s s':PS}{a b:Nd}(u:ED a b s s')(h:s'.H.length<=100000000):s'.far<=s.far/\(∀q∈s.H,q∈s'.H)/\s'.GL=s.GL:=by
 rcases u with⟨_,rfl⟩|⟨_,l,_,rfl⟩
 ·exact⟨ce _,λ_ h=>h,rfl⟩
 ·obtain⟨_,_,h0,⟨d,f,v,_⟩,_⟩:=kC (n:=b) l ({s with FL:=s.FL++[(a,b)]}:PS)
  unfold PS.far;rw[f,cw] at h;rw[f,v,cw,cw];exact⟨by show 2*(100000000-(s.H.length+d.length))+(s.td.length+d.length)<=_;have D:s.H.length+d.length<=100000000:=h;omega,λq A=>cM _ A,h0⟩
theorem F6 {s:PS}{td:bm (Nd×bx)}{q:Nd×bx}(h:s.td=td++[q]):({s with td:=td}:PS).far<s.far:=by
 unfold PS.far;rw[h,cw];exact Nat.add_lt_add_left (pf _) _
theorem Am {w:World}{base:bx}{e:gx}{size n cap:bx}{f:eA Addr}{xs:bm cd}(h:w.ownsRow base e size (tP f n cap) n xs):n<=cap:=by
 rcases h.2 with⟨d,q⟩|⟨g,c,cur,d,q,u,v,A,D,G⟩
 ·omega
 ·simp only[gj] at d
  omega
theorem F7 {td:bm (Nd×bx)}(h:0<td.length):∃t q,td=t++[q]:=⟨td.dropLast,td.getLast (List.ne_nil_of_length_pos h),(List.dropLast_concat_getLast _).symm⟩
end
section
open Go.RowKit Go.Maps
theorem jv (w:World)(c:da cd)(a b d:bp)(f:c.size=3):(dr ⟨w.heap.size,0,tD⟩ (og (a,b,d)) 0).run ac (w.alloc (ua c 164))= .ok () (w.alloc (ua (og (a,b,d)).toArray 164)):=
 ct (P:=ac) w 164 c (og (a,b,d)).toArray (by show _=tB 3;kernel_rfl) f (by simp[og,cj])
theorem bT (f v:bp)(w:World):zP 77 #[Z U f,Z U v] w (kS (av f v)):=by
 have hst:=λc d=>jv w c f v (-1) d;simp only[og] at hst;go_enter func77,ntmps77;go_wp2;(try simp only[db,Exit.then]);refine dv (eI (P:=ac) rfl _ _ w.heap.size 164 _ (0,0) _ rfl (alloc_at _ _) cX rfl (by kernel_rfl)) rfl ?_;exact⟨rfl,(aq _ _).alloc (ce _) _⟩
theorem nH (f v:bp)(w:World):zP 79 #[Z U f,Z U v] w (kS (bN f v)):=by
 have hst:=λc d=>jv w c (-1) f v d;simp only[og] at hst;go_enter func79,ntmps79;go_wp2;(try simp only[db,Exit.then]);refine dv (eI (P:=ac) rfl _ _ w.heap.size 164 _ (0,0) _ rfl (alloc_at _ _) cX rfl (by kernel_rfl)) rfl ?_;exact⟨rfl,(aq _ _).alloc (ce _) _⟩
theorem jw (f:bp)(w:World):zP 83 #[Z U f] w (kS (cZ f)):=by
 have hst:=λc d=>jv w c f (-1) (-1) d;simp only[og] at hst;go_enter func83,ntmps83;go_wp2;(try simp only[db,Exit.then]);refine dv (eI (P:=ac) rfl _ _ w.heap.size 164 _ (0,0) _ rfl (alloc_at _ _) cX rfl (by kernel_rfl)) rfl ?_;exact⟨rfl,(aq _ _).alloc (ce _) _⟩
end
section
open Go.RowKit Go.Maps
section
variable {T HM FM GM:bx}{m:Mo}{B:bx}{tg tg1:bx->PT}{s s1:yx}{p p1 p':PS}{w w1 w':World}
theorem Dw {W:World}{g j k:bx}{a b c:bp}{l:bm Nd}(h:∀i u,(og (a,b,c))[i]?=tB u->W.cell? ⟨g,k+i,tD⟩=tB u):W.cell? ⟨g,k,tD⟩=tB (Z U a)/\W.cell? ⟨g,k+1,tD⟩=tB (Z U b)/\W.cell? ⟨g,k+2,tD⟩=tB (Z U c):=
 ⟨h 0 _ rfl,h 1 _ rfl,h 2 _ rfl⟩
def Ha (l:bm XI)(T HM FM GM:bx)(m:Mo)(B:bx)(tg:bx->PT)(n:Nd)(x:bx)(d:PS)(F:bm Nd)(G:bm Th)(j:bx)(w wr:World):Prop:=
 ∃p',J2 (aN 0 l) (aV l) (eP l) (aj l) n x (F.drop j) G p'/\bF ZA T HM FM GM m B tg p' w wr/\p'.FL=d.FL/\p'.GL=d.GL/\(n,x)∈p'.H/\p'.far<=d.far
theorem Ha.step {l:bm XI}{n y:Nd}{x j:bx}{d p':PS}{F:bm Nd}{G:bm Th}{tg:bx->PT}{w wr:World}(J:∀x∈l,Cz x)(hl:l.length<=400)(hF:d.fl n=F)(f:F[j]?=tB y)
  (q:J2 (aN 0 l) (aV l) (eP l) (aj l) n x (F.drop j) G p')(u:p'.FL=d.FL)(h2:p'.GL=d.GL)(v:(n,x)∈p'.H)(h4:p'.far<=d.far)(hm:bF ZA T HM FM GM m B tg (p'.add y x) w wr):Ha l T HM FM GM m B tg n x d F G (j+1) w wr:=by
 have hd:F.drop j=y::F.drop (j+1):=by
  obtain⟨h,e⟩:=ap.1 f;rw[<-e];exact eR h
 rw[hd] at q;have A:=q.add v (by rw[u];exact sQ.1 (by rw[hF];exact cf f));have D:=F5 (A.lens (λx h=>(J x h).2.2.2.2.2.2.2) hl).1;obtain⟨a1,a2,a3,_⟩:=mq (s:=p') (n:=y) (x:=x);exact⟨_,A,hm,a2.trans u,a3.trans h2,D.2 _ v,cY D.1 h4⟩
theorem Ha.okY {l:bm XI}{n y:Nd}{x j:bx}{d p':PS}{F:bm Nd}{G:bm Th}(f:∀x∈l,Cz x)(hl:l.length<=400)(hF:d.fl n=F)(q:F[j]?=tB y)
  (u:J2 (aN 0 l) (aV l) (eP l) (aj l) n x (F.drop j) G p')(v:p'.FL=d.FL)(h3:(n,x)∈p'.H):gT y:=by
 have A:(n,y)∈p'.FL:=by rw[v];exact sQ.1 (by rw[hF];exact cf q)
 rcases u.flu _ A with h|⟨t,D,z,J,h7⟩
 ·exact(wO f _ h).2
 ·have:=(Dv f D (x:=z) (by have:=ed J;have:=dN (l:=l);omega)).2
  rw[<-h7] at this;exact this
def Gt (l:bm XI)(T HM FM GM:bx)(m:Mo)(B:bx)(tg:bx->PT)(n:Nd)(x:bx)(d:PS)(G:bm Th)(j:bx)(w wr:World):Prop:=
 ∃p',J2 (aN 0 l) (aV l) (eP l) (aj l) n x [] (G.drop j) p'/\bF ZF T HM FM GM m B tg p' w wr/\p'.GL=d.GL/\(n,x)∈p'.H/\p'.far<=d.far
theorem Gt.mem {n:Nd}{t:Th}{j:bx}{d p':PS}{G:bm Th}(f:d.gl n=G)(h:G[j]?=tB t)(q:p'.GL=d.GL):(n,t)∈p'.GL:=by
 rw[q];exact EF.1 (by rw[f];exact cf h)
theorem Gt.step {l:bm XI}{n:Nd}{t:Th}{x j:bx}{d p' q:PS}{G:bm Th}{tg:bx->PT}{w wr:World}(hx:∀x∈l,Cz x)(hl:l.length<=400)(hG:d.gl n=G)(u:G[j]?=tB t)
  (v:J2 (aN 0 l) (aV l) (eP l) (aj l) n x [] (G.drop j) p')(A:p'.GL=d.GL)(D:(n,x)∈p'.H)(h4:p'.far<=d.far)(J:ED (bQ x t).1 (bQ x t).2 p' q)(hm:bF ZF T HM FM GM m B tg q w wr):Gt l T HM FM GM m B tg n x d G (j+1) w wr:=by
 have hd:G.drop j=t::G.drop (j+1):=by
  obtain⟨h,e⟩:=ap.1 u;rw[<-e];exact eR h
 rw[hd] at v;have uc:=v.flow D (Gt.mem hG u A) J;have f:=EO J (uc.lens (λx h=>(hx x h).2.2.2.2.2.2.2) hl).1;exact⟨_,uc,hm,f.2.2.trans A,f.2.1 _ D,cY f.1 h4⟩
theorem EP (w:World)(c:da cd)(k a b d:bp)(e:nj)(f:c.size=5):(dr ⟨w.heap.size,0,tD⟩ [Z U k,Z U a,Z U b,Z U d,tU e] 0).run ac (w.alloc (ua c 213))= .ok () (w.alloc (ua #[Z U k,Z U a,Z U b,Z U d,tU e] 213)):=
 ct (P:=ac) w 213 c #[Z U k,Z U a,Z U b,Z U d,tU e] (by show _=tB 5;kernel_rfl) f (by simp[cj])
theorem F8 {W:World}{g k:bx}{q a b c:bp}{d:nj}(h:∀i u,(GX (q,(a,b,c),d))[i]?=tB u->W.cell? ⟨g,k+i,tD⟩=tB u):W.cell? ⟨g,k,tD⟩=tB (Z U q)/\W.cell? ⟨g,k+1,tD⟩=tB (Z U a)/\W.cell? ⟨g,k+2,tD⟩=tB (Z U b)/\W.cell? ⟨g,k+3,tD⟩=tB (Z U c)/\W.cell? ⟨g,k+4,tD⟩=tB (tU d):=
 ⟨h 0 _ rfl,h 1 _ rfl,h 2 _ rfl,h 3 _ rfl,h 4 _ rfl⟩
def IW (l:bm XI)(T HM FM GM:bx)(m:Mo)(B:bx)(tg:bx->PT)(w:World)(d:bx)(wr:World):Prop:=
 ∃p1 n x,J2 (aN 0 l) (aV l) (eP l) (aj l) n x [] [] p1/\bF Z0 T HM FM GM m B tg p1 w wr/\p1.far<=d
theorem tN (w:World)(h:Pm T HM FM GM m B tg s p w)(l:bm XI)(hx:∀x∈l,Cz x)(hl:l.length<=400)(hj:J1 l p):
  gd ac 72 #[tR (tB ⟨T,0,tD⟩)] w λe w'=>e= ub (.tuple #[])/\∃p',p'.td=[]/\p'.St=p.St/\(∀m y,(m,y)∈p'.H↔Lf (aN 0 l) (aV l) (eP l) m y)/\bF Z0 T HM FM GM m B tg p' w w':=by
 have H:=zH h;have HJ:=zH hj;have HX:=zH hx;have HL:=zH hl;clear h hj hx hl;go_enter func72,ntmps72
 go_step3
 go_wp2
 go_step3
 go_wp2
 go_loopg [] p.far (λmm wr=>IW l T HM FM GM m B tg w mm wr)
 case atStart=>exact⟨p,av 0 0,0,HJ.out.settled _ _,H.out.same (aq _ _),ce _⟩
 case round=>
  obtain⟨p1,n0,x0,vc,GE,AH⟩:=hrel;obtain⟨tg1,s1,hP,hE,hT⟩:=GE;have vq:wr.cell? ⟨T,6,tD⟩=tB (tP s1.tdA p1.td.length s1.tdC):=(rowAt hP.row 6 rfl).1;rcases rj p1.td.length with h0|h0
  ·rw[h0] at vq
   have HR:cm (∃p',p'.td=[]/\p'.St=p.St/\(∀m y,(m,y)∈p'.H↔Lf (aN 0 l) (aV l) (eP l) m y)/\bF Z0 T HM FM GM m B tg p' w wr):=
    ⟨p1,du h0,vc.st.trans HJ.out.st.symm,λm y=>vc.done (du h0),⟨tg1,s1,hP,hE,hT⟩⟩
   clear hP hE hT vc AH h0;go_wp2;(try simp only[Exit.noGoto]);refine kA (fa rfl _ _ _) rfl ?_;exact⟨rfl,HR.out⟩
  ·obtain⟨td,⟨⟨f,v,A⟩,x⟩,vr⟩:=F7 h0
   obtain⟨n,hn⟩:=zE td.length;have ws:p1.td.length=n+1:=by rw[vr,<-hn];simp
   have C3:cm (({p1 with td:=td}:PS).far<gk):=bl (F6 vr) AH;obtain⟨l1,l2,l3,l4⟩:=vc.lens (λx hx=>(HX.out x hx).2.2.2.2.2.2.2) HL.out;have AI:(((f,v,A):Nd),x)∈p1.H:=vc.tds _ (by rw[vr];simp);have AK:=vc.snd _ AI;have C4:gT (f,v,A):=Ia HX.out HL.out AK;have IN:x<=400:=by have:=ed AK;have:=dN (l:=l);have:=HL.out;omega
   have GF:n+1<=100000000:=by omega
   obtain⟨g,hg,vd,wx⟩:=iI EK 4 (λ_=>rfl) hP.trow (i:=n) (a:=((f,v,A),x)) (by rw[vr,<-hn,et (ce _),m6];rfl);rw[hg,ws] at vq;have AM:=Am hP.trow;rw[ws] at AM;have GO:n<=s1.tdC:=Nat.le_of_succ_le AM;have HP:=zH hP;have HE:=zH hE;have HT:=zH hT;have C5:=zH vc;have AN:=zH vr;have HN:=zH hn;have AS:=zH ws;have C6:=zH AI;have yk:=zH C4;have HG:=zH hg;have C7:=zH wx;obtain⟨S1,yp⟩:=zE ((λW=>bh wr.heap.size wr W):World->Prop);have xf:cm (∀W,bh wr.heap.size wr W->S1 W):=λW h=>by rw[<-yp];exact h
   have GP:S1 wr.drew:=xf.out _ (aq _ _).drew;have d:cm (∀W,S1 W->W.cell? ⟨T,6,tD⟩=tB (tP (tB ⟨g,0,tD⟩) (n+1) s1.tdC)/\T<W.heap.size/\g<W.heap.size):=λW J=>by
    rw[<-yp] at J;have hp:=HP.out.grow J;have:W.cell? ⟨T,6,tD⟩=tB (tP s1.tdA p1.td.length s1.tdC):=(rowAt hp.row 6 rfl).1;rw[hg,ws] at this;exact⟨this,ae hp.row,bl vd J.size⟩
   have Dd:cm (∀W,S1 W->∀j u,(#[Z U f,Z U v,Z U A,Z U (x:bp)]:da cd).toList[j]?=tB u->W.cell? ((⟨g,n*4,tD⟩:Addr).add j)=tB u):=λW J j u hu=>by
    rw[<-yp] at J;rw[dc,(Ext.of_below_size (M:=λ_=>mb) J).cell (a:=⟨g,n*4+j,tD⟩) vd (λh=>h)];exact C7.out j u hu
   have GS:decide ((0:bp)<(n:bp)+1)=tE:=ef (by omega);have GT:me.wrap (n:bp)=(n:bp):=by rw[jx];omega
   have GW:(0:bp)<=(n:bp):=by omega
   have G0:(n:bp)<(n:bp)+1:=by omega
   clear hP hE hT vc AH h0 vr hn ws AI AK C4 hg wx yp AM l1 l2 l3 l4;obtain⟨V,hV⟩:=zE wr.drew;have vj:cm (bh wr.heap.size wr V):=by rw[<-hV];exact(aq _ _).drew
   have G1:S1 V:=xf.out _ vj.out;have HV:=zH hV;clear hV
   go_upto_region 1 with(fail)
   refine bL S1 (by kernel_rfl) ?_;rw[HV.out];refine yT 0 rfl d.out ?_;(try go_simp);refine yT 1 rfl d.out ?_;(try go_simp);refine yT 2 rfl d.out ?_;(try go_simp);refine yT 3 rfl d.out ?_;(try go_simp);refine yT 4 rfl d.out ?_;(try go_simp);refine yT 5 rfl d.out ?_;(try go_simp);refine yT 6 rfl d.out ?_;(try go_simp);refine yT 7 rfl d.out ?_;(try go_simp);refine yT 8 rfl d.out ?_;(try go_simp);refine yT 9 rfl d.out ?_;(try go_simp);refine yT 10 rfl d.out ?_;(try go_simp);refine yL 11 rfl 215 ⟨g,n*4,tD⟩ Dd.out underlying215 ?_;(try go_simp);refine yO 12 rfl λK' hK=> ?_;go_simp;obtain⟨D,hD⟩:=zE V.heap.size;obtain⟨W1,xj⟩:=zE (V.alloc (ua #[Z U f,Z U v,Z U A,Z U (x:bp)] 215));have hst:∀c:da cd,c.size=4->(dr ⟨D,0,tD⟩ [Z U f,Z U v,Z U A,Z U (x:bp)] 0).run ac (V.alloc (ua c 215))= .ok () W1:=λc hc=>by
    rw[<-hD,<-xj];exact ct (P:=ac) V 215 c #[Z U f,Z U v,Z U A,Z U (x:bp)] (by show _=tB 4;kernel_rfl) hc (by simp[cj])
   have Dg:bh wr.heap.size wr W1:=by rw[<-xj];exact vj.out.alloc vj.out.size _
   have Do:W1.heap[D]?=tB (ua #[Z U f,Z U v,Z U A,Z U (x:bp)] 215 (0,0)):=by rw[<-xj,<-hD];exact alloc_at _ _
   have AT:=zH Dg;have Ds:=zH Do;have IS:wr.heap.size<=D:=by rw[<-hD];exact vj.out.size
   (try rw[hD]);refine hK _ _ (xf.out _ (vj.out.alloc vj.out.size _)) ?_;have DA:=zH xj;clear hK Dg Do xj;(try go_simp);refine yO 13 rfl λK' hK=> ?_;go_simp;(try simp only[hst]);(try go_simp);(try rw[DA.out]);refine hK _ _ (xf.out _ AT.out) ?_;clear hK hst;refine⟨by kernel_rfl, ?_⟩;clear G1 GP d Dd GS C7 HV hD vj DA xf;obtain⟨V2,yq⟩:=zE W1.drew;have yr:bh wr.heap.size wr V2:=by rw[<-yq];exact AT.out.drew
   have DB:V2.heap[D]?=tB (ua #[Z U f,Z U v,Z U A,Z U (x:bp)] 215 (0,0)):=by rw[<-yq];exact Ds.out
   have vu:=HP.out.grow yr;have c6:V2.cell? ⟨T,6,tD⟩=tB (tP s1.tdA p1.td.length s1.tdC):=(rowAt vu.row 6 rfl).1;have f6:=(rowAt vu.row 6 rfl).2;rw[HG.out,AS.out] at c6;obtain⟨S2,AW⟩:=zE ((λW=>W=V2):World->Prop);have G2:S2 V2:=by rw[<-AW]
   have d:cm (∀W,S2 W->W.cell? ⟨T,6,tD⟩=tB (tP (tB ⟨g,0,tD⟩) (n+1) s1.tdC)/\T<W.heap.size/\g<W.heap.size):=λW J=>by
    rw[<-AW] at J;rw[J];have:V2.cell? ⟨T,6,tD⟩=tB (tP s1.tdA p1.td.length s1.tdC):=(rowAt vu.row 6 rfl).1;rw[HG.out,AS.out] at this;exact⟨this,ae vu.row,bl vd yr.size⟩
   have vx:=vu.popped AN.out;rw[HG.out,HN.out] at vx;have yv:=zH DB;have A0:=zH yr;have xl:=zH vx;have DE:=zH yq;clear DB yr vu vx AW yq
   go_upto_region 2 with(fail)
   refine ak 14 S2 (by kernel_rfl) ?_;rw[DE.out];refine zT 0 rfl d.out ?_;(try go_simp);refine zT 1 rfl d.out ?_;(try go_simp);refine zT 2 rfl d.out ?_;(try go_simp);refine zT 3 rfl d.out ?_;(try go_simp);refine zT 4 rfl d.out ?_;(try go_simp);refine zT 5 rfl d.out ?_;(try go_simp);refine zT 6 rfl d.out ?_;(try go_simp);refine zT 7 rfl d.out ?_;(try go_simp);refine zT 8 rfl d.out ?_;(try go_simp);refine zT 9 rfl d.out ?_;(try go_simp);refine zT 10 rfl d.out ?_;(try go_simp);refine zT 11 rfl d.out ?_;(try go_simp);refine zT 12 rfl d.out ?_;(try go_simp);refine zT 13 rfl d.out ?_;(try go_simp);refine zK rfl λK' hK=> ?_;go_simp;refine hK _ _ ?_;clear hK c6 f6;refine⟨by kernel_rfl, ?_⟩;obtain⟨W3,DG⟩:=zE (V2.setCell ⟨T,6,tD⟩ (tP (tB ⟨g,0,tD⟩) n s1.tdC));rw[DG] at xl⊢;obtain⟨vy,s2,A2,A4,we⟩:=xl.out;obtain⟨p2,xo⟩:=zE ({p1 with td:=td}:PS);rw[xo] at A2;have G3:cm (p2.far<gk):=by rw[<-xo];exact C3.out
   have DH:J2 (aN 0 l) (aV l) (eP l) (aj l) (f,v,A) x (p2.fl (f,v,A)) (p2.gl (f,v,A)) p2:=by
    rw[<-xo];exact C5.out.pop AN.out
   have DM:(((f,v,A):Nd),x)∈p2.H:=by rw[<-xo];exact C6.out
   have DO:cm (Ext (λk=>tg1 k≠ .no/\¬Z0 (tg1 k)) wr W3):=(Ext.of_below_size A0.out).trans (A4.mono λk hk=>⟨hk.1,id⟩) (λk hk=> .inl hk);have G4:cm ((∀k,vy k≠ .no->tg1 k≠ .no\/wr.heap.size<=k)/\∀k,tg1 k≠ .no->vy k=tg1 k):=⟨λk hk=>(we.1 k hk).imp id (λh=>cY A0.out.size h),we.2⟩
   have DP:vy D= .no:=er λe=>by
    have:=(HP.out.lo D)
    rcases we.1 D e with q|q
    ·have:=(HP.out.lo D q).2;omega
    ·have:=ae yv.out;omega
   have DQ:=A4.heap yv.out (λe=>by
    rcases we.1 D (by rw[we.2 D e.1];exact e.1) with q|q
    ·have:=(HP.out.lo D q).2;omega
    ·have:=ae yv.out;omega)
   have DS:=zH A2;have yy:=zH DH;have D0:=zH DM;have yW:=zH DP;have A5:=zH DQ;clear xl A2 A4 we DH DM xo DP DQ yv Ds AT A0 DE DG C3 C5 AN HN AS C6 HG G2 d GO GT GW G0 GF vd;obtain⟨V3,A6⟩:=zE W3.drew;have ur:bh W3.heap.size W3 V3:=by rw[<-A6];exact(aq _ _).drew
   have uc:=DS.out.grow ur;have uv:=(ur.block D (ae A5.out)).trans A5.out;have Hb:cm (Ext (λk=>tg1 k≠ .no/\¬Z0 (tg1 k)) wr V3):=DO.out.trans (Ext.of_below_size (M:=λ_=>mb) ur) (λ_ h=>h.elim);have ud:=uc.lookF yk.out;unfold kS at ud;obtain⟨ao,cap,D1,zc,zd⟩:=uc.fs _ yk.out;rw[D1] at ud zc zd;obtain⟨F,hF⟩:=zE (p2.fl (f,v,A));obtain⟨G,hG⟩:=zE (p2.gl (f,v,A));rw[hF] at ud zc zd;rw[hF,hG] at yy;obtain⟨S3,zj⟩:=zE ((λW=>W=V3):World->Prop);have Hc:S3 V3:=by rw[<-zj]
   have d:cm (∀W,S3 W->W.cell? ⟨T,4,tD⟩=tB (.map (tB FM))/\T<W.heap.size/\D<W.heap.size/\(gC 144 (.map (tB FM)) (tW #[Z U f,Z U v,Z U A]) tG).run ac W= .ok (tP ao F.length cap) W):=λW J=>by
    rw[<-zj] at J;rw[J];exact⟨(rowAt uc.row 4 rfl).1,ae uc.row,ae uv,ud⟩
   have xp:cm (∀W,S3 W->∀j u,(#[Z U f,Z U v,Z U A]:da cd).toList[j]?=tB u->W.cell? ((⟨D,0,tD⟩:Addr).add j)=tB u):=λW J j u hu=>by
    rw[<-zj] at J;rw[J,dc,cV,cc _ _ _ _ _ _ uv];rcases j with _|_|_|j
    ·exact hu
    ·exact hu
    ·exact hu
    ·simp at hu
   have IT:F.length<=400000000:=by
    have:=(yy.out.lens (λx hx=>(HX.out x hx).2.2.2.2.2.2.2) HL.out).2.1;rw[<-hF];unfold PS.fl;rw[ei];exact cY (ki _ _) (by omega)
   have D2:=zH uc;have xr:=zH uv;have D3:=zH zc;have D4:=zH zd;have Ek:=zH hF;have zp:=zH hG;have Bk:=zH A6;clear A6 ur uc uv ud D1 zc zd hF hG zj DO DS A5 vq
   go_upto_region 3 with(fail)
   refine bL S3 (by kernel_rfl) ?_;rw[Bk.out];refine yT 0 rfl d.out ?_;(try go_simp);refine yT 1 rfl d.out ?_;(try go_simp);refine yT 2 rfl d.out ?_;(try go_simp);refine yT 3 rfl d.out ?_;(try go_simp);refine yT 4 rfl d.out ?_;(try go_simp);refine yL 5 rfl 164 ⟨D,0,tD⟩ xp.out cX ?_;(try go_simp);refine yT 6 rfl d.out ?_;(try go_simp);refine yT 7 rfl d.out ?_;(try go_simp);refine yT 8 rfl d.out ?_;(try go_simp);refine⟨by kernel_rfl, ?_⟩;clear d xp Hc
   go_wp2_with fail
   go_loopw [48] (λc wq=>∃j:bx,j<=F.length/\c= Z U (j:bp)/\Ha l T HM FM GM m B vy (f,v,A) x p2 F G j V3 wq) (λc _=>F.length-(intOf c).toNat)
   case atStart=>exact⟨0,cN _,rfl,p2,yy.out,D2.out.same (aq _ _),rfl,rfl,D0.out,ce _⟩
   case round=>
    obtain⟨j,hj,rfl,p',vf,EV,zr,xt,xF,zv⟩:=hrel
    by_cases Bm:j<F.length
    ·obtain⟨⟨b1,b2,b3⟩,hy⟩:∃y,F[j]?=tB y:=⟨_,am Bm⟩
     have Hh:(j:bp)<(F.length:bp):=by omega
     obtain⟨tg',s',xT,ue,wg⟩:=EV;obtain⟨fg,rfl,By,E0⟩:=iI og 3 (λ_=>rfl) D3.out hy;obtain⟨y1,y2,y3⟩:=Dw (W:=wr) (l:=F) (k:=j*3) (g:=fg) (j:=j) (λi u hu=>by
      rw[ue.cell (a:=⟨fg,j*3+i,tD⟩) By (λe=>e.2 (.inl ⟨_,D4.out fg rfl⟩))];exact E0 i u hu)
     have IZ:fg<wr.heap.size:=bl By ue.size;have E3:=Ha.okY HX.out HL.out Ek.out hy vf zr xF;have vm:=ue.heap xr.out (λe=>e.1 yW.out);obtain⟨N,hN⟩:=zE wr.heap.size;obtain⟨W5,vh⟩:=zE (wr.alloc (ua #[Z U b1,Z U b2,Z U b3] 164));have hst:=λc hc=>jv wr c b1 b2 b3 hc;simp only[og] at hst;rw[hN,show(([Z U b1,Z U b2,Z U b3]:bm cd).toArray)=#[Z U b1,Z U b2,Z U b3] from rfl,vh] at hst;have ux:=iq vh;have wi:W5.heap[N]?=tB (ua #[Z U b1,Z U b2,Z U b3] 164 (0,0)):=by rw[<-vh,<-hN];exact alloc_at _ _
     have ya:=(ux.block D (ae vm)).trans vm;have E4:W5.cell? ⟨D,3,tD⟩=tB (Z U (x:bp)):=(rowAt ya 3 rfl).1;have vi:=xT.grow ux;have E6:=vf.lens (λx hx=>(HX.out x hx).2.2.2.2.2.2.2) HL.out;have Hi:=zH (mE W5 vi E3 (x:=x) (by omega) (by omega) (by omega));have yb:=zH wi;have yd:=zH ux;have BE:=zH vf;have Hj:=zH ue;have BT:=zH wg;have Hk:=zH zr;have BY:=zH xt;have B4:=zH xF;have B5:=zH zv;have HY:=zH hy;clear hy xT ue wg By E0 E3 vm ux wi ya vi E6 vf zr xt xF zv
     go_wp2_with (first
      |(refine ci rfl 164 _ rfl N rfl 164 #[Z U b1,Z U b2,Z U b3] (0,0) _ yb.out cX rfl (by kernel_rfl) ?_)
      |(go_at_call 120;refine Hi.out.mono ?_;rintro e w2 ⟨rfl,vx⟩;have xl:=zH vx;clear vx))
     go_roundw
     case rel=>exact⟨j+1,by omega,by go_num,Ha.step HX.out HL.out Ek.out HY.out BE.out Hk.out BY.out B4.out B5.out (bF.step Hj.out BT.out (bF.below yd.out xl.out))⟩
     case measure=>simp[intOf];omega
    ·have B6:j=F.length:=by omega
     subst B6;obtain⟨tg',s',xT,ue,wg⟩:=EV;rw[qs] at vf;have B8:p'.gl (f,v,A)=G:=by rw[<-zp.out];unfold PS.gl;rw[xt]
     obtain⟨V4,B9⟩:=zE wr.drew;have ur:bh wr.heap.size wr V4:=by rw[<-B9];exact(aq _ _).drew
     have uc:=xT.grow ur;have E7:tg' D= .no:=er λe=>by
      rcases wg.1 D e with q|q
      ·exact q yW.out
      ·have:=ae xr.out;omega
     have uv:=(ur.block D (bl (ae xr.out) ue.size)).trans (ue.heap xr.out (λe=>e.1 yW.out));have Hn:cm (Ext (λk=>vy k≠ .no/\¬Z0 (vy k)) V3 V4):=(ue.mono λk hk=>⟨hk.1,id⟩).trans (Ext.of_below_size (M:=λ_=>mb) ur) (λ_ h=>h.elim);have ud:=uc.lookG yk.out;unfold kS at ud;obtain⟨Hp,Hs,Fc,An,As⟩:=uc.gs _ yk.out;rw[Fc] at ud An As;rw[B8] at ud An As;obtain⟨S4,At⟩:=zE ((λW=>W=V4):World->Prop);have Hv:S4 V4:=by rw[<-At]
     have d:cm (∀W,S4 W->W.cell? ⟨T,5,tD⟩=tB (.map (tB GM))/\T<W.heap.size/\D<W.heap.size/\(gC 145 (.map (tB GM)) (tW #[Z U f,Z U v,Z U A]) tG).run ac W= .ok (tP Hp G.length Hs) W):=λW J=>by
      rw[<-At] at J;rw[J];exact⟨(rowAt uc.row 5 rfl).1,ae uc.row,ae uv,ud⟩
     have xp:cm (∀W,S4 W->∀j u,(#[Z U f,Z U v,Z U A]:da cd).toList[j]?=tB u->W.cell? ((⟨D,0,tD⟩:Addr).add j)=tB u):=λW J j u hu=>by
      rw[<-At] at J;rw[J,dc,cV,cc _ _ _ _ _ _ uv];rcases j with _|_|_|j
      ·exact hu
      ·exact hu
      ·exact hu
      ·simp at hu
     have I0:G.length<=400:=by
      have:=(vf.lens (λx hx=>(HX.out x hx).2.2.2.2.2.2.2) HL.out).2.2.2;rw[<-B8];unfold PS.gl;rw[ei];exact cY (ki _ _) (by omega)
     have Hx:=zH uc;have HU:=zH uv;have If:=zH An;have In:=zH As;have BE:=zH vf;have BT:=zH wg;have Bk:=zH B9;have Is:=zH E7;have BY:=zH xt;have B4:=zH xF;have B5:=zH zv;clear B9 ur uc uv ud Fc An As B8 At vf wg E7 ue xT xt xF zv zr D3 D4 D2 yy D0 xr yW
     go_upto_region 8 with(fail)
     refine bL S4 (by kernel_rfl) ?_;rw[Bk.out];refine yT 0 rfl d.out ?_;(try go_simp);refine yT 1 rfl d.out ?_;(try go_simp);refine yT 2 rfl d.out ?_;(try go_simp);refine yT 3 rfl d.out ?_;(try go_simp);refine yT 4 rfl d.out ?_;(try go_simp);refine yL 5 rfl 164 ⟨D,0,tD⟩ xp.out cX ?_;(try go_simp);refine yT 6 rfl d.out ?_;(try go_simp);refine yT 7 rfl d.out ?_;(try go_simp);refine yT 8 rfl d.out ?_;(try go_simp);refine⟨by kernel_rfl, ?_⟩;clear d xp Hv
     go_wp2_with fail
     go_loopw [66] (λc wq=>∃j:bx,j<=G.length/\c= Z U (j:bp)/\Gt l T HM FM GM m B tg' (f,v,A) x p2 G j V4 wq) (λc _=>G.length-(intOf c).toNat)
     case atStart=>exact⟨0,cN _,rfl,p',BE.out,Hx.out.same (aq _ _),BY.out,B4.out,B5.out⟩
     case round=>
      obtain⟨j,hj,rfl,p4,wj,Cd,Ax,Cl,AD⟩:=hrel
      by_cases Bm:j<G.length
      ·obtain⟨⟨q,⟨b1,b2,b3⟩,b⟩,hy⟩:∃y,G[j]?=tB y:=⟨_,am Bm⟩
       have Hh:(j:bp)<(G.length:bp):=by omega
       obtain⟨It,s5,vi,vp,AE⟩:=Cd;obtain⟨gg,rfl,vd,wx⟩:=iI GX 5 (λ_=>rfl) If.out hy;obtain⟨y1,y2,y3,y4,y5⟩:=F8 (W:=wr) (k:=j*5) (g:=gg) (λi u hu=>by
        rw[vp.cell (a:=⟨gg,j*5+i,tD⟩) vd (λe=>e.2 ⟨_,In.out gg rfl⟩)];exact wx i u hu)
       have I4:gg<wr.heap.size:=bl vd vp.size;have Fi:(((f,v,A):Nd),((q,(b1,b2,b3),b):Th))∈eP l:=by
        have:=Gt.mem zp.out hy Ax;rw[wj.gl] at this;exact this
       have Cp:=rC HX.out _ Fi;have Fk:gT (b1,b2,b3):=Cp.2.2;have Fl:gT (-1,(x:bp),q):=tL (oZ (by omega)) Cp.2.1;have vm:=vp.heap HU.out (λe=>e.1 Is.out);obtain⟨N,hN⟩:=zE wr.heap.size;obtain⟨W5,vh⟩:=zE (wr.alloc (ua #[Z U q,Z U b1,Z U b2,Z U b3,tU b] 213));have hst:=λc hc=>EP wr c q b1 b2 b3 b hc;rw[hN,vh] at hst;have ux:=iq vh;have wi:W5.heap[N]?=tB (ua #[Z U q,Z U b1,Z U b2,Z U b3,tU b] 213 (0,0)):=by rw[<-vh,<-hN];exact alloc_at _ _
       have ya:=(ux.block D (ae vm)).trans vm;have E4:W5.cell? ⟨D,3,tD⟩=tB (Z U (x:bp)):=(rowAt ya 3 rfl).1;have Iv:W5.cell? ⟨N,0,tD⟩=tB (Z U q):=(rowAt wi 0 rfl).1;have Fm:=vi.grow ux;have ID:=zH (nH (x:bp) q W5);have yb:=zH wi;have yd:=zH ux;have IF:=zH Fm;have va:=zH wj;have Fo:=zH vp;have Fr:=zH AE;have Ft:=zH Ax;have FA:=zH Cl;have FF:=zH AD;have HY:=zH hy;have FG:=zH Fk;have F0:=zH Fl;clear vi vp AE vd wx Fi Cp Fk Fl vm ux wi ya Fm wj Ax Cl AD hy
       go_upto_if 76 with(first
        |(go_at_call 79;refine ID.out.mono ?_;rintro e W6 ⟨rfl,F2⟩;have wk:=zH F2;clear F2;obtain⟨N6,CA⟩:=zE W6.heap.size;obtain⟨W7,wl⟩:=zE (W6.alloc (ua #[Z U (-1),Z U (x:bp),Z U q] 164));have CC:=λc hc=>jv W6 c (-1) (x:bp) q hc;simp only[og] at CC;rw[CA,show(([Z U (-1),Z U (x:bp),Z U q]:bm cd).toArray)=#[Z U (-1),Z U (x:bp),Z U q] from rfl,wl] at CC;have CD:=((iq wl).block N (bl (ae yb.out) wk.out.size)).trans ((wk.out.block N (ae yb.out)).trans yb.out);have Ge:W7.cell? ⟨N,4,tD⟩=tB (tU b):=(rowAt CD 4 rfl).1;have CH:=zH CD;clear CD;simp only[kS,bN]))
       have Gk:bh wr.heap.size wr W7:=yd.out.trans ((wk.out.mono yd.out.size).trans ((iq wl).mono (cY yd.out.size wk.out.size)));have AF:W7.heap[N6]?=tB (ua #[Z U (-1),Z U (x:bp),Z U q] 164 (0,0)):=by rw[<-wl,<-CA];exact alloc_at _ _
       have I5:W7.cell? ⟨N6,0,tD⟩=tB (Z U (-1)):=(rowAt AF 0 rfl).1;have I6:W7.cell? ⟨N6,1,tD⟩=tB (Z U (x:bp)):=(rowAt AF 1 rfl).1;have I7:W7.cell? ⟨N6,2,tD⟩=tB (Z U q):=(rowAt AF 2 rfl).1;have I8:W7.cell? ⟨N,1,tD⟩=tB (Z U b1):=(rowAt CH.out 1 rfl).1;have I9:W7.cell? ⟨N,2,tD⟩=tB (Z U b2):=(rowAt CH.out 2 rfl).1;have Ja:W7.cell? ⟨N,3,tD⟩=tB (Z U b3):=(rowAt CH.out 3 rfl).1;have AG:=IF.out.grow ((wk.out).trans ((iq wl).mono wk.out.size));have E6:=va.out.lens (λx hx=>(HX.out x hx).2.2.2.2.2.2.2) HL.out;have Jb:=dN (l:=l);have Jc:=HL.out;have GB:=zH Gk;clear Gk AF CC hst wl vh CA hN E4 Iv;cases b with
       |false=>
        clear Ge;have CM:=zH (fw W7 AG F0.out FG.out (λn y h=>by have:=ed (va.out.snd _ h);omega) (by omega) (by omega) (by omega));clear AG
        go_wp2_with (first
         |(go_at_call 119;refine CM.out.mono ?_;rintro e w8 ⟨rfl,p5,ye,yi⟩;have CN:=zH yi;have CT:=zH ye;clear yi ye))
        go_roundw
        case rel=>exact⟨j+1,by omega,by go_num,Gt.step HX.out HL.out zp.out HY.out va.out Ft.out FA.out FF.out CT.out (bF.step Fo.out Fr.out (bF.below GB.out CN.out))⟩
        case measure=>simp[intOf];omega
       |true=>
        clear Ge;have CM:=zH (fw W7 AG FG.out F0.out (λn y h=>by have:=ed (va.out.snd _ h);omega) (by omega) (by omega) (by omega));clear AG
        go_wp2_with (first
         |(go_at_call 119;refine CM.out.mono ?_;rintro e w8 ⟨rfl,p5,ye,yi⟩;have CN:=zH yi;have CT:=zH ye;clear yi ye))
        go_roundw
        case rel=>exact⟨j+1,by omega,by go_num,Gt.step HX.out HL.out zp.out HY.out va.out Ft.out FA.out FF.out CT.out (bF.step Fo.out Fr.out (bF.below GB.out CN.out))⟩
        case measure=>simp[intOf];omega
      ·have B6:j=G.length:=by omega
       subst B6;rw[qs] at wj;have GC:cm (bF Z0 T HM FM GM m B tg p4 w wr):=bF.step HE.out HT.out (bF.step Hb.out G4.out (bF.step Hn.out BT.out (Cd.weak λ_ h=>h.elim)));obtain⟨It,s5,vi,vp,AE⟩:=Cd;have vq:wr.cell? ⟨T,6,tD⟩=tB (tP s5.tdA p4.td.length s5.tdC):=(rowAt vi.row 6 rfl).1;have va:=zH wj;have IH:cm (p4.far<gk):=Nat.lt_of_le_of_lt AD G3.out;clear vi vp AE wj Ax Cl AD;rcases rj p4.td.length with h0|h0
       ·rw[h0] at vq
        have HR:cm (∃p',p'.td=[]/\p'.St=p.St/\(∀m y,(m,y)∈p'.H↔Lf (aN 0 l) (aV l) (eP l) m y)/\bF Z0 T HM FM GM m B tg p' w wr):=
         ⟨p4,du h0,va.out.st.trans HJ.out.st.symm,λm y=>va.out.done (du h0),GC.out⟩
        clear h0;go_wp2;(try simp only[Exit.noGoto]);refine kA (fa rfl _ _ _) rfl ?_;exact⟨rfl,HR.out⟩
       ·obtain⟨k,hk⟩:=zE p4.td.length
        rw[hk] at vq h0;have Jd:((k:bp)==0)=tG:=by simp;omega
        have Je:¬(k:bp)=0:=by omega
        clear hk;go_wp2
        go_roundg p4.far
        case measure=>exact IH.out
        case rel=>exact⟨p4,(f,v,A),x,va.out,GC.out,ce _⟩
end
end
end Go.Proofs.YtjomgckjhcfbgaaGreat
