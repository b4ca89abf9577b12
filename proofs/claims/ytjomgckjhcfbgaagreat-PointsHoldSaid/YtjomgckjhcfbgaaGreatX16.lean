/- Walks. -/
import Derived.WalkSmall
import Derived.Deep.WholeRow
import Derived.Test.YtjomgckjhcfbgaaGreatX15
set_option maxRecDepth 100000
set_option maxHeartbeats 64000000
set_option linter.all false
namespace Go.Proofs.YtjomgckjhcfbgaaGreat
open Go.RowKit
open Go.Proofs.Tryz renaming prog→ac,underlying164→cD,underlying145→ox
open _root_.List renaming getElem?_eq_getElem→am,getElem?_eq_some_iff→bl,mem_of_getElem?→ce,length_append→co,mem_append_left→ct,mem_singleton→cA,mem_append→cC,eq_nil_of_length_eq_zero→cY,length_map→dj,flatMap_cons→dp,drop_eq_getElem_cons→dT,flatMap_append→el,mem_flatMap→er,length_cons→eI,getElem?_append_right→fi,mem_cons→fW,length_filter_le→ke,length_nil→ki,flatMap_singleton→me,getElem?_append_left→mB,drop_length→n8
open Go.RowKit.Below renaming refl→an
open Go.RowKit renaming Below→aq,Hid→ca
open Go renaming heap_setCell_same→aE,cell_of_row→bh,wpList_load_row→bo,Value→bw,run_storeCells_new→cf,storeCells→cU,bodyPost_ret→da,results_cell_row→dv,results_none→eR,Calls→ft,TypeId→ge,bodyPost_end→j9,Addr→oA
open _root_ renaming List→bm,Nat→cd,Int→cj,if_neg→cw,Array→cG,if_pos→cI,Option→du,decide_eq_true→dy,False→jp
open _root_.Nat renaming le_refl→bp,lt_of_lt_of_le→cn,le_trans→cE,zero_add→cH,zero_le→cJ,le_succ→gb,succ_mul→oy,eq_zero_or_pos→oR,min_eq_left→pw
open Go.Value renaming oneCell'→br,slice→bx,ownBlock→eN,slice→ra,pointer→rb,bool→re,agg→rh,int→Z
open Go.Exit renaming inBlock→cL
open Go.Addr renaming add_lit→cM
open _root_.Classical renaming byContradiction→eq
open Go.Instr renaming lookup→fk
open Go.Value.slice renaming injEq→fz
open Go.IntKind renaming i64→qr,i64→U
open _root_.Option renaming some→qt,none→qu
open _root_.Bool renaming true→qv,false→qS
open Go.Obj renaming cells→rj
open Go.Ending renaming returned→rk
open Tryz
section
open Go.RowKit Go.Maps
theorem qm (w:World):(zeroValue 211).run ac w= .ok (ra qu 0 0) w:=by kernel_rfl
theorem Pm.lookG {T HM FM GM:cd}{m:Mo}{B:cd}{tg:cd->PT}{s:vM}{p:PS}{w:World}(h:Pm T HM FM GM m B tg s p w){n:Nd}(d:fV n):(fk 145 (.map (qt GM)) (jE n) qS).run ac w= .ok (s.gv n) w:=by
 obtain⟨c,q⟩:=h.gm;exact q.look jF ox (qm w) d
theorem tK {α:Type}(enc:α->bm bw)(k:cd)(f:∀a,(enc a).length=k):∀(l:bm α)(i:cd)(a:α),l[i]?=qt a->∀j u,(enc a)[j]?=qt u->(l.flatMap enc)[i*k+j]?=qt u
 |[],i,a,h=>by simp at h
 |x::r,0,a,h=>λj u d=>by
  obtain rfl:x=a:=by simpa using h
  rw[dp,Nat.zero_mul,cH,mB (bl.1 d).1];exact d
 |x::r,i+1,a,h=>λj u d=>by
  have ih:=tK enc k f r i a (by simpa using h) j u d;have e:(i+1)*k+j=k+(i*k+j):=by rw[oy];omega
  rw[dp,e,fi (by rw[f];omega),f,Nat.add_sub_cancel_left];exact ih
theorem mO {w:World}{B:cd}{e:ge}{α:Type}(enc:α->bm bw)(k:cd)(o:∀a,(enc a).length=k){l:bm α}{d:du oA}{cap:cd}(h:w.ownsRow B e k (ra d l.length cap) l.length (l.flatMap enc)){i:cd}{a:α}(f:l[i]?=qt a):
  ∃g,d=qt ⟨g,0,qu⟩/\g<w.heap.size/\∀j u,(enc a)[j]?=qt u->w.cell? ⟨g,i*k+j,qu⟩=qt u:=by
 rcases qh h with⟨e,_⟩|⟨g,q,v,y⟩
 ·have:=(bl.1 f).1
  omega
 ·exact⟨g,q,v,λj u A=>y _ _ (tK enc k o l i a f j u A)⟩
end
section
open Go.RowKit Go.Maps
theorem sw {w:World}{base:cd}{e:ge}{size n cap:cd}{f:du oA}{xs u:bm bw}(h:w.ownsRow base e size (ra f (n+1) cap) (n+1) (xs++u))(o:xs.length=n*size):
  w.ownsRow base e size (ra f n cap) n xs:=by
 rcases h.2 with⟨d,q⟩|⟨g,c,cur,d,q,v,J,y,A,D⟩
 ·omega
 ·simp only[fz,true_and] at d
  obtain⟨rfl,rfl⟩:=d;refine⟨o,.inr ⟨g,cap,cur,rfl,q,v,by omega,y,A, ?_⟩⟩;have G:cur.toList.take (n*size)=(cur.toList.take ((n+1)*size)).take (n*size):=by
   rw[List.take_take,pw (Nat.mul_le_mul_right size (gb n))]
  rw[G,D,<-o,List.take_left]
theorem zF:∀l:bm (Nd×cd),(l.flatMap Cb).length=l.length*4
 |[]=>rfl
 |a::l=>by
  rw[dp,co,zF l,eI];simp only[Cb,eI,ki];omega
section
variable {T HM FM GM:cd}{m:Mo}{B:cd}{tg:cd->PT}{s:vM}{p:PS}{w:World}
theorem Pm.popped {td:bm (Nd×cd)}{q:Nd×cd}(h:Pm T HM FM GM m B tg s p w)(A:p.td=td++[q]):
  bn ZA T HM FM GM m B tg {p with td:=td} w (w.setCell ⟨T,6,qu⟩ (ra s.tdA td.length s.tdC)):=by
 have K:p.td.length=td.length+1:=by rw[A];simp
 obtain⟨R,v⟩:=zE (w.setCell ⟨T,6,qu⟩ (ra s.tdA td.length s.tdC));rw[v];have f:Ext (·=T) w R:=by rw[<-v];exact Ext.set1 w T 6 _
 have D:=aE w T 6 _ _ (ra s.tdA td.length s.tdC) h.row;rw[v] at D;have o:∀{k:cd}{t:PT},tg k=t->t≠ .top->¬k=T:=λh1 q2 e=>q2 (by rw[<-h1,e,h.t1]);have G:=h.trow;rw[K,A,el] at G;have rl:=sw G (zF td);have J:∀k,(bx s.tdA td.length s.tdC).ownBlock=qt k->(bx s.tdA p.td.length s.tdC).ownBlock=qt k:=λk d=>by
  cases hs:s.tdA with
  |none=>rw[hs] at d;simp[eN] at d
  |some a=>rw[hs] at d;exact d
 refine⟨tg,s,⟨?_,h.hm.imp λ_ q=>q.ext f (o h.t2 (by simp)),h.fm.imp λ_ q=>q.ext f (o h.t3 (by simp)),h.gm.imp λ_ q=>q.ext f (o h.t4 (by simp)),
  ae h.srow f (λj y=>o (h.t5 j y) (by simp)),ae rl f (λj y=>o (h.t6 j (J j y)) (by simp)),λn u=>(h.hs n u).ext f (λk e q=>o q (by simp) e),
  λn u=>(h.fs n u).ext f (λk e q=>o q (by simp) e),λn u=>(h.gs n u).ext f (λk e q=>o q (by simp) e),
  h.t1,h.t2,h.t3,h.t4,h.t5,λk d=>h.t6 k (J k d),λk d=>⟨(h.lo k d).1,cn (h.lo k d).2 f.size⟩,h.lS,h.lH, ?_⟩,f.mono (λk e=>by rw[e,h.t1];simp[ZA]),λk d=> .inl d,λ_ _=>rfl⟩
 ·exact D
 ·have:=h.lT
  show td.length<=_
  omega
theorem Pm.sited {q:cj×cj}{w1 w9:World}{f:du oA}{o:cd}(h:Pm T HM FM GM m B tg s p w)(lS:p.St.length+1<=1000000)
  (D:Ext (λ_=>jp) w w1)(rn:Ext (λk=>(bx s.siA p.St.length s.siK).ownBlock=qt k) w1 w9)
  (h9:w9.ownsRow B 67 2 (ra f (p.St.length+1) o) (p.St.length+1) (p.St.flatMap Cy++Cy q))
  (K:∀k,(bx f (p.St.length+1) o).ownBlock=qt k->(bx s.siA p.St.length s.siK).ownBlock=qt k\/w1.heap.size<=k):
  bn ZA T HM FM GM m B tg {p with St:=p.St++[q]} w (w9.setCell ⟨T,2,qu⟩ (ra f (p.St.length+1) o)):=by
 obtain⟨G,rl⟩:=zE (w9.setCell ⟨T,2,qu⟩ (ra f (p.St.length+1) o));rw[rl];have hB:=h.base;have rr:¬(bx s.siA p.St.length s.siK).ownBlock=qt T:=λe=>by have:=h.t5 T e;rw[h.t1] at this;simp at this
 have rv:Ext (·=T) w9 G:=by rw[<-rl];exact Ext.set1 w9 T 2 _
 have rL:=D.heap h.row (λh=>h);have rN:=rn.heap rL rr;have rx:=aE w9 T 2 _ _ (ra f (p.St.length+1) o) rN;rw[rl] at rx;have rS:Ext (λk=>k=T\/(bx s.siA p.St.length s.siK).ownBlock=qt k) w1 G:=(rn.mono (λk h=> .inr h)).trans rv (λk e=> .inl (.inl e));have u:Ext (λk=>k=T\/(bx s.siA p.St.length s.siK).ownBlock=qt k) w G:=(D.mono (λk h=>h.elim)).trans rS (λk e=> .inl e);have R:(p.St++[q]).length=p.St.length+1:=by simp
 obtain⟨y,rm⟩:=zE (bx f (p.St.length+1) o);rw[rm] at h9 K;have v:∀k,tg k≠ .no->(λk=>if y.ownBlock=qt k then PT.si else tg k) k=tg k:=λk d=>by
  show(if y.ownBlock=qt k then PT.si else tg k)=tg k
  by_cases e:y.ownBlock=qt k
  ·rw[cI e]
   rcases K k e with a|a
   ·exact(h.t5 k a).symm
   ·have:=(h.lo k d).2
    have:=D.size;omega
  ·rw[cw e]
 have A:∀{k:cd}{t:PT},tg k=t->t≠ .top->t≠ .si->¬(k=T\/(bx s.siA p.St.length s.siK).ownBlock=qt k):=λh1 q2 q3 e=>by
  rcases e with e|e
  ·exact q2 (by rw[<-h1,e,h.t1])
  ·exact q3 (by rw[<-h1];exact h.t5 _ e)
 have rB:=ae h9 rv (λk d e=>by
  subst e;rcases K _ d with a|a
  ·exact rr a
  ·have:=(h.lo _ (show tg _≠ .no by rw[h.t1];simp)).2
   have:=D.size;omega)
 refine⟨λk=>if y.ownBlock=qt k then .si else tg k,{s with siA:=f,siK:=o},⟨?_,h.hm.imp λ_ q=>q.ext u (A h.t2 (by simp) (by simp)),h.fm.imp λ_ q=>q.ext u (A h.t3 (by simp) (by simp)),h.gm.imp λ_ q=>q.ext u (A h.t4 (by simp) (by simp)),
  ?_,ae h.trow u (λj hj=>A (h.t6 j hj) (by simp) (by simp)),λn J=>((h.hs n J).ext u (λk e q=>A q (by simp) (by simp) e)).tag v,
  λn J=>((h.fs n J).ext u (λk e q=>A q (by simp) (by simp) e)).tag (by simp) v,λn J=>((h.gs n J).ext u (λk e q=>A q (by simp) (by simp) e)).tag (by simp) v,
  (v T (by rw[h.t1];simp)).trans h.t1,(v HM (by rw[h.t2];simp)).trans h.t2,(v FM (by rw[h.t3];simp)).trans h.t3,(v GM (by rw[h.t4];simp)).trans h.t4,
  λk d=> ?_,λk d=>(v k (by rw[h.t6 k d];simp)).trans (h.t6 k d),λk d=> ?_,by show(p.St++[q]).length<=_;rw[R];exact lS,h.lH,h.lT⟩,
  u.mono (λk e=> ?_),λk d=> ?_,v⟩
 ·show G.heap[T]?=qt (rj (zC m HM FM GM {s with siA:=f,siK:=o} (p.St++[q]).length p.td.length) 148 (0,0))
  rw[R];exact rx
 ·show G.ownsRow B 67 2 (ra f (p.St++[q]).length o) (p.St++[q]).length ((p.St++[q]).flatMap Cy)
  rw[R,el,me,rm];exact rB
 ·have rI:(bx f (p.St++[q]).length o).ownBlock=qt k:=d
  rw[R,rm] at rI;exact cI rI
 ·by_cases e:y.ownBlock=qt k
  ·exact rB.lt k e
  ·have rK:tg k≠ .no:=λa=>d (by show(if y.ownBlock=qt k then PT.si else tg k)=_;rw[cw e];exact a)
   exact⟨(h.lo k rK).1,cn (h.lo k rK).2 u.size⟩
 ·rcases e with e|e
  ·rw[e,h.t1];simp[ZA]
  ·rw[h.t5 k e];simp[ZA]
 ·by_cases e:y.ownBlock=qt k
  ·rcases K k e with a|a
   ·exact .inl (by rw[h.t5 k a];simp)
   ·exact .inr (cE D.size a)
  ·exact .inl λa=>d (by show(if y.ownBlock=qt k then PT.si else tg k)=_;rw[cw e];exact a)
end
end
section
open Go.RowKit Go.Maps
def zG (x:XI):Prop:=fI x.1/\fI x.2.1/\fI x.2.2.d/\fI x.2.2.a/\fI x.2.2.b/\fI x.2.2.f/\(x.2.2.op=15->∀y∈x.2.2.args,fI y)/\x.2.2.args.length<=40
theorem fZ {n:cd}(h:n<=1000000000):fI (n:cj):=⟨by omega,by omega⟩
theorem Ew:fI (-1):=⟨by omega,by omega⟩
theorem bK {f v:cj}(d:fI f)(h:fI v):fV (aQ f v):=⟨d,h,Ew⟩
theorem qo {f:cj}(d:fI f):fV (kN f):=⟨d,Ew,Ew⟩
theorem vG {x k:cj}(d:fI x)(f:fI k):fV (kP x k):=⟨Ew,d,f⟩
theorem xu {f g:cj}(o:fI f)(q:fI g):∀(l:bm cj)(n:cd),n+l.length<=1000000->(∀y∈l,fI y)->∀e∈gG f g n l,fV e.1/\fV e.2
 |[],_,_,_=>λe d=>by simp[gG] at d
 |a::r,n,h,u=>λe d=>by
  unfold gG at d;rw[eI] at h;rcases fW.1 d with rfl|d
  ·exact⟨bK o (u a (by simp)),bK q (fZ (by omega))⟩
  ·exact xu o q r (n+1) (by omega) (λy v=>u y (by simp[v])) e d
theorem Df {x:XI}(h:zG x):∀e∈kQ x.1 x.2.2,fV e.1/\fV e.2:=by
 obtain⟨f,A,o,q,D,u,v,G⟩:=h;intro e d;unfold kQ at d
 split at d
 ·rw[cA] at d;subst d;exact⟨bK f q,bK f o⟩
 split at d
 ·rename_i y
  rcases cC.1 d with d|d
  ·exact xu f u _ 0 (by omega) (v y) e d
  ·rw[cA] at d;subst d;exact⟨qo u,bK f o⟩
 split at d
 ·rw[cA] at d;subst d;exact⟨bK f q,qo f⟩
 ·simp at d
theorem Dh {x:XI}(h:zG x):∀t∈kR x.1 x.2.2,fV t.1/\fI t.2.1/\fV t.2.2.1:=by
 obtain⟨f,y,u,o,v,q,A,D⟩:=h;intro e d;unfold kR at d
 split at d
 ·rw[cA] at d;subst d;exact⟨bK f o,q,bK f u⟩
 split at d
 ·rw[cA] at d;subst d;exact⟨bK f o,q,bK f v⟩
 ·simp at d
theorem tL {l:bm XI}(h:∀x∈l,zG x):∀e∈aR l,fV e.1/\fV e.2:=λe d=>by
 obtain⟨x,f,d⟩:=er.1 d;exact Df (h x f) e d
theorem oK {l:bm XI}(h:∀x∈l,zG x):∀t∈dN l,fV t.1/\fI t.2.1/\fV t.2.2.1:=λe d=>by
 obtain⟨x,f,d⟩:=er.1 d;exact Dh (h x f) e d
theorem xw:∀{l:bm XI}{c:cd},(∀x∈l,zG x)->∀b∈aL c l,fV b.1
 |[],_,_=>λb d=>by simp[aL] at d
 |x::r,c,h=>λb d=>by
  unfold aL at d;rcases cC.1 d with d|d
  ·unfold lK at d
   split at d
   ·rw[cA] at d
    subst d;exact bK (h x (by simp)).1 (h x (by simp)).2.2.1
   ·simp at d
  ·exact xw (λy f=>h y (by simp[f])) b d
theorem Ep {l:bm XI}(h:∀x∈l,zG x)(v:l.length<=400){n:Nd}{x:cd}(f:Lf (aL 0 l) (aR l) (dN l) n x):fV n:=by
 have y:=dU (l:=l);cases f with
 |base o=>exact xw h _ o
 |edge q _=>exact(tL h _ q).2
 |out d _ _=>exact(oK h _ d).2.2
 |into d u _=>exact vG (fZ (by have:=fU u;omega)) (oK h _ d).2.1
theorem AQ {l:bm XI}(h:∀x∈l,zG x){n:Nd}{t:Th}{x:cd}(o:(n,t)∈dN l)(u:x<=1000000):fV (bJ x t).1/\fV (bJ x t).2:=by
 obtain⟨v,q,d⟩:=oK h _ o;have f:fV (kP (x:cj) t.1):=vG (fZ (by omega)) q;unfold bJ
 split
 ·exact⟨d,f⟩
 ·exact⟨f,d⟩
def PS.far (s:PS):cd:=2*(100000000-s.H.length)+s.td.length
theorem Di {s:PS}{n:Nd}{x:cd}(h:(s.add n x).H.length<=100000000):(s.add n x).far<=s.far/\∀q∈s.H,q∈(s.add n x).H:=by
 obtain⟨_,_,_,d,f,o,_⟩:=kg (s:=s) (n:=n) (x:=x);unfold PS.far;rw[f,co] at h;rw[f,o,co,co];exact⟨by omega,λq u=>ct _ u⟩
theorem Cg {s s':PS}{a b:Nd}(o:BQ a b s s')(h:s'.H.length<=100000000):s'.far<=s.far/\(∀q∈s.H,q∈s'.H)/\s'.GL=s.GL:=by
 rcases o with⟨_,rfl⟩|⟨_,l,_,rfl⟩
 ·exact⟨bp _,λ_ h=>h,rfl⟩
 ·obtain⟨_,_,h0,⟨d,f,u,_⟩,_⟩:=jm (n:=b) l ({s with FL:=s.FL++[(a,b)]}:PS)
  unfold PS.far;rw[f,co] at h;rw[f,u,co,co];exact⟨by show 2*(100000000-(s.H.length+d.length))+(s.td.length+d.length)<=_;have y:s.H.length+d.length<=100000000:=h;omega,λq v=>ct _ v,h0⟩
theorem Dj {s:PS}{td:bm (Nd×cd)}{q:Nd×cd}(h:s.td=td++[q]):({s with td:=td}:PS).far<s.far:=by
 unfold PS.far;rw[h,co];exact Nat.add_lt_add_left (Nat.lt_succ_self _) _
theorem xx {w:World}{base:cd}{e:ge}{size n cap:cd}{f:du oA}{xs:bm bw}(h:w.ownsRow base e size (ra f n cap) n xs):n<=cap:=by
 rcases h.2 with⟨d,o⟩|⟨g,c,cur,d,o,q,u,v,y,A⟩
 ·omega
 ·simp only[fz] at d
  omega
theorem Dk {td:bm (Nd×cd)}(h:0<td.length):∃t q,td=t++[q]:=⟨td.dropLast,td.getLast (List.ne_nil_of_length_pos h),(List.dropLast_concat_getLast _).symm⟩
end
section
open Go.RowKit Go.Maps
theorem iB (w:World)(c:cG bw)(a b d:cj)(f:c.size=3):(cU ⟨w.heap.size,0,qu⟩ (lQ (a,b,d)) 0).run ac (w.alloc (rj c 164))= .ok () (w.alloc (rj (lQ (a,b,d)).toArray 164)):=
 cf (P:=ac) w 164 c (lQ (a,b,d)).toArray (by show _=qt 3;kernel_rfl) f (by simp[lQ,br])
theorem bF (f v:cj)(w:World):zP 77 #[Z U f,Z U v] w (jE (aQ f v)):=by
 have hst:=λc d=>iB w c f v (-1) d;simp only[lQ] at hst;go_enter func77,ntmps77;go_wp2;(try simp only[cL,Exit.then]);refine da (dv (P:=ac) rfl _ _ w.heap.size 164 _ (0,0) _ rfl (alloc_at _ _) cD rfl (by kernel_rfl)) rfl ?_;exact⟨rfl,(an _ _).alloc (bp _) _⟩
theorem lg (f v:cj)(w:World):zP 79 #[Z U f,Z U v] w (jE (kP f v)):=by
 have hst:=λc d=>iB w c (-1) f v d;simp only[lQ] at hst;go_enter func79,ntmps79;go_wp2;(try simp only[cL,Exit.then]);refine da (dv (P:=ac) rfl _ _ w.heap.size 164 _ (0,0) _ rfl (alloc_at _ _) cD rfl (by kernel_rfl)) rfl ?_;exact⟨rfl,(an _ _).alloc (bp _) _⟩
theorem iE (f:cj)(w:World):zP 83 #[Z U f] w (jE (kN f)):=by
 have hst:=λc d=>iB w c f (-1) (-1) d;simp only[lQ] at hst;go_enter func83,ntmps83;go_wp2;(try simp only[cL,Exit.then]);refine da (dv (P:=ac) rfl _ _ w.heap.size 164 _ (0,0) _ rfl (alloc_at _ _) cD rfl (by kernel_rfl)) rfl ?_;exact⟨rfl,(an _ _).alloc (bp _) _⟩
end
section
open Go.RowKit Go.Maps
section
variable {T HM FM GM:cd}{m:Mo}{B:cd}{tg tg1:cd->PT}{s s1:vM}{p p1 p':PS}{w w1 w':World}
theorem AR {W:World}{g j k:cd}{a b c:cj}{l:bm Nd}(h:∀i u,(lQ (a,b,c))[i]?=qt u->W.cell? ⟨g,k+i,qu⟩=qt u):W.cell? ⟨g,k,qu⟩=qt (Z U a)/\W.cell? ⟨g,k+1,qu⟩=qt (Z U b)/\W.cell? ⟨g,k+2,qu⟩=qt (Z U c):=
 ⟨h 0 _ rfl,h 1 _ rfl,h 2 _ rfl⟩
def D7 (l:bm XI)(T HM FM GM:cd)(m:Mo)(B:cd)(tg:cd->PT)(n:Nd)(x:cd)(d:PS)(F:bm Nd)(G:bm Th)(j:cd)(w wr:World):Prop:=
 ∃p',J2 (aL 0 l) (aR l) (dN l) (aF l) n x (F.drop j) G p'/\bn ZA T HM FM GM m B tg p' w wr/\p'.FL=d.FL/\p'.GL=d.GL/\(n,x)∈p'.H/\p'.far<=d.far
theorem D7.step {l:bm XI}{n y:Nd}{x j:cd}{d p':PS}{F:bm Nd}{G:bm Th}{tg:cd->PT}{w wr:World}(D:∀x∈l,zG x)(J:l.length<=400)(hF:d.fl n=F)(f:F[j]?=qt y)
  (o:J2 (aL 0 l) (aR l) (dN l) (aF l) n x (F.drop j) G p')(q:p'.FL=d.FL)(K:p'.GL=d.GL)(u:(n,x)∈p'.H)(R:p'.far<=d.far)(hm:bn ZA T HM FM GM m B tg (p'.add y x) w wr):D7 l T HM FM GM m B tg n x d F G (j+1) w wr:=by
 have hd:F.drop j=y::F.drop (j+1):=by
  obtain⟨h,e⟩:=bl.1 f;rw[<-e];exact dT h
 rw[hd] at o;have v:=o.add u (by rw[q];exact p9.1 (by rw[hF];exact ce f));have A:=Di (v.lens (λx h=>(D x h).2.2.2.2.2.2.2) J).1;obtain⟨a1,a2,a3,_⟩:=kg (s:=p') (n:=y) (x:=x);exact⟨_,v,hm,a2.trans q,a3.trans K,A.2 _ u,cE A.1 R⟩
theorem D7.okY {l:bm XI}{n y:Nd}{x j:cd}{d p':PS}{F:bm Nd}{G:bm Th}(f:∀x∈l,zG x)(K:l.length<=400)(hF:d.fl n=F)(o:F[j]?=qt y)
  (q:J2 (aL 0 l) (aR l) (dN l) (aF l) n x (F.drop j) G p')(u:p'.FL=d.FL)(R:(n,x)∈p'.H):fV y:=by
 have v:(n,y)∈p'.FL:=by rw[u];exact p9.1 (by rw[hF];exact ce o)
 rcases q.flu _ v with h|⟨t,A,z,D,J⟩
 ·exact(tL f _ h).2
 ·have:=(AQ f A (x:=z) (by have:=fU D;have:=dU (l:=l);omega)).2
  rw[<-J] at this;exact this
def Dx (l:bm XI)(T HM FM GM:cd)(m:Mo)(B:cd)(tg:cd->PT)(n:Nd)(x:cd)(d:PS)(G:bm Th)(j:cd)(w wr:World):Prop:=
 ∃p',J2 (aL 0 l) (aR l) (dN l) (aF l) n x [] (G.drop j) p'/\bn ZF T HM FM GM m B tg p' w wr/\p'.GL=d.GL/\(n,x)∈p'.H/\p'.far<=d.far
theorem Dx.mem {n:Nd}{t:Th}{j:cd}{d p':PS}{G:bm Th}(f:d.gl n=G)(h:G[j]?=qt t)(o:p'.GL=d.GL):(n,t)∈p'.GL:=by
 rw[o];exact BS.1 (by rw[f];exact ce h)
theorem Dx.step {l:bm XI}{n:Nd}{t:Th}{x j:cd}{d p' o:PS}{G:bm Th}{tg:cd->PT}{w wr:World}(J:∀x∈l,zG x)(K:l.length<=400)(R:d.gl n=G)(q:G[j]?=qt t)
  (u:J2 (aL 0 l) (aR l) (dN l) (aF l) n x [] (G.drop j) p')(v:p'.GL=d.GL)(y:(n,x)∈p'.H)(h4:p'.far<=d.far)(A:BQ (bJ x t).1 (bJ x t).2 p' o)(hm:bn ZF T HM FM GM m B tg o w wr):Dx l T HM FM GM m B tg n x d G (j+1) w wr:=by
 have hd:G.drop j=t::G.drop (j+1):=by
  obtain⟨h,e⟩:=bl.1 q;rw[<-e];exact dT h
 rw[hd] at u;have D:=u.flow y (Dx.mem R q v) A;have f:=Cg A (D.lens (λx h=>(J x h).2.2.2.2.2.2.2) K).1;exact⟨_,D,hm,f.2.2.trans v,f.2.1 _ y,cE f.1 h4⟩
theorem Ch (w:World)(c:cG bw)(k a b d:cj)(e:Bool)(f:c.size=5):(cU ⟨w.heap.size,0,qu⟩ [Z U k,Z U a,Z U b,Z U d,re e] 0).run ac (w.alloc (rj c 213))= .ok () (w.alloc (rj #[Z U k,Z U a,Z U b,Z U d,re e] 213)):=
 cf (P:=ac) w 213 c #[Z U k,Z U a,Z U b,Z U d,re e] (by show _=qt 5;kernel_rfl) f (by simp[br])
theorem Dl {W:World}{g k:cd}{q a b c:cj}{d:Bool}(h:∀i u,(DW (q,(a,b,c),d))[i]?=qt u->W.cell? ⟨g,k+i,qu⟩=qt u):W.cell? ⟨g,k,qu⟩=qt (Z U q)/\W.cell? ⟨g,k+1,qu⟩=qt (Z U a)/\W.cell? ⟨g,k+2,qu⟩=qt (Z U b)/\W.cell? ⟨g,k+3,qu⟩=qt (Z U c)/\W.cell? ⟨g,k+4,qu⟩=qt (re d):=
 ⟨h 0 _ rfl,h 1 _ rfl,h 2 _ rfl,h 3 _ rfl,h 4 _ rfl⟩
def EM (l:bm XI)(T HM FM GM:cd)(m:Mo)(B:cd)(tg:cd->PT)(w:World)(d:cd)(wr:World):Prop:=
 ∃p1 n x,J2 (aL 0 l) (aR l) (dN l) (aF l) n x [] [] p1/\bn Z0 T HM FM GM m B tg p1 w wr/\p1.far<=d
theorem qp (w:World)(h:Pm T HM FM GM m B tg s p w)(l:bm XI)(hx:∀x∈l,zG x)(hl:l.length<=400)(hj:J1 l p):
  ft ac 72 #[rb (qt ⟨T,0,qu⟩)] w λe w'=>e= rk (.tuple #[])/\∃p',p'.td=[]/\p'.St=p.St/\(∀m y,(m,y)∈p'.H↔Lf (aL 0 l) (aR l) (dN l) m y)/\bn Z0 T HM FM GM m B tg p' w w':=by
 have H:=zH h;have HJ:=zH hj;have HX:=zH hx;have HL:=zH hl;clear h hj hx hl;go_enter func72,ntmps72
 go_step3
 go_wp2
 go_step3
 go_wp2
 go_loopg [] p.far (λmm wr=>EM l T HM FM GM m B tg w mm wr)
 case atStart=>exact⟨p,aQ 0 0,0,HJ.out.settled _ _,H.out.same (an _ _),bp _⟩
 case round=>
  obtain⟨p1,n0,x0,rB,B6,vf⟩:=hrel;obtain⟨tg1,s1,hP,hE,hT⟩:=B6;have sk:wr.cell? ⟨T,6,qu⟩=qt (ra s1.tdA p1.td.length s1.tdC):=(rowAt hP.row 6 rfl).1;rcases oR p1.td.length with h0|h0
  ·rw[h0] at sk
   have HR:ca (∃p',p'.td=[]/\p'.St=p.St/\(∀m y,(m,y)∈p'.H↔Lf (aL 0 l) (aR l) (dN l) m y)/\bn Z0 T HM FM GM m B tg p' w wr):=
    ⟨p1,cY h0,rB.st.trans HJ.out.st.symm,λm y=>rB.done (cY h0),⟨tg1,s1,hP,hE,hT⟩⟩
   clear hP hE hT rB vf h0;go_wp2;(try simp only[Exit.noGoto]);refine j9 (eR rfl _ _ _) rfl ?_;exact⟨rfl,HR.out⟩
  ·obtain⟨td,⟨⟨f,o,v⟩,x⟩,sn⟩:=Dk h0
   obtain⟨n,hn⟩:=zE td.length;have sX:p1.td.length=n+1:=by rw[sn,<-hn];simp
   have yb:ca (({p1 with td:=td}:PS).far<gk):=cn (Dj sn) vf;obtain⟨l1,l2,l3,l4⟩:=rB.lens (λx hx=>(HX.out x hx).2.2.2.2.2.2.2) HL.out;have vh:(((f,o,v):Nd),x)∈p1.H:=rB.tds _ (by rw[sn];simp);have vi:=rB.snd _ vh;have yd:fV (f,o,v):=Ep HX.out HL.out vi;have DS:x<=400:=by have:=fU vi;have:=dU (l:=l);have:=HL.out;omega
   have B7:n+1<=100000000:=by omega
   obtain⟨g,hg,rI,sY⟩:=mO Cb 4 (λ_=>rfl) hP.trow (i:=n) (a:=((f,o,v),x)) (by rw[sn,<-hn,fi (bp _),Nat.sub_self];rfl);rw[hg,sX] at sk;have vj:=xx hP.trow;rw[sX] at vj;have B8:n<=s1.tdC:=Nat.le_of_succ_le vj;have HP:=zH hP;have HE:=zH hE;have HT:=zH hT;have ye:=zH rB;have vm:=zH sn;have HN:=zH hn;have vn:=zH sX;have yi:=zH vh;have tB:=zH yd;have HG:=zH hg;have yk:=zH sY;obtain⟨S1,tD⟩:=zE ((λW=>aq wr.heap.size wr W):World->Prop);have te:ca (∀W,aq wr.heap.size wr W->S1 W):=λW h=>by rw[<-tD];exact h
   have B9:S1 wr.drew:=te.out _ (an _ _).drew;have d:ca (∀W,S1 W->W.cell? ⟨T,6,qu⟩=qt (ra (qt ⟨g,0,qu⟩) (n+1) s1.tdC)/\T<W.heap.size/\g<W.heap.size):=λW A=>by
    rw[<-tD] at A;have hp:=HP.out.grow A;have:W.cell? ⟨T,6,qu⟩=qt (ra s1.tdA p1.td.length s1.tdC):=(rowAt hp.row 6 rfl).1;rw[hg,sX] at this;exact⟨this,aa hp.row,cn rI A.size⟩
   have yp:ca (∀W,S1 W->∀j u,(#[Z U f,Z U o,Z U v,Z U (x:cj)]:cG bw).toList[j]?=qt u->W.cell? ((⟨g,n*4,qu⟩:oA).add j)=qt u):=λW A j u J=>by
    rw[<-tD] at A;rw[cM,(Ext.of_below_size (M:=λ_=>jp) A).cell (a:=⟨g,n*4+j,qu⟩) rI (λh=>h)];exact yk.out j u J
   have Cd:decide ((0:cj)<(n:cj)+1)=qv:=dy (by omega);have Cl:qr.wrap (n:cj)=(n:cj):=by rw[IntKind.wrap_i64];omega
   have Cp:(0:cj)<=(n:cj):=by omega
   have CA:(n:cj)<(n:cj)+1:=by omega
   clear hP hE hT rB vf h0 sn hn sX vh vi yd hg sY tD vj l1 l2 l3 l4;obtain⟨V,hV⟩:=zE wr.drew;have rS:ca (aq wr.heap.size wr V):=by rw[<-hV];exact(an _ _).drew
   have CC:S1 V:=te.out _ rS.out;have HV:=zH hV;clear hV
   go_upto_region 1 with(fail)
   refine bQ S1 (by kernel_rfl) ?_;rw[HV.out];refine yT 0 rfl d.out ?_;(try go_simp);refine yT 1 rfl d.out ?_;(try go_simp);refine yT 2 rfl d.out ?_;(try go_simp);refine yT 3 rfl d.out ?_;(try go_simp);refine yT 4 rfl d.out ?_;(try go_simp);refine yT 5 rfl d.out ?_;(try go_simp);refine yT 6 rfl d.out ?_;(try go_simp);refine yT 7 rfl d.out ?_;(try go_simp);refine yT 8 rfl d.out ?_;(try go_simp);refine yT 9 rfl d.out ?_;(try go_simp);refine yT 10 rfl d.out ?_;(try go_simp);refine yL 11 rfl 215 ⟨g,n*4,qu⟩ yp.out underlying215 ?_;(try go_simp);refine yO 12 rfl λK' hK=> ?_;go_simp;obtain⟨D,hD⟩:=zE V.heap.size;obtain⟨W1,tf⟩:=zE (V.alloc (rj #[Z U f,Z U o,Z U v,Z U (x:cj)] 215));have hst:∀c:cG bw,c.size=4->(cU ⟨D,0,qu⟩ [Z U f,Z U o,Z U v,Z U (x:cj)] 0).run ac (V.alloc (rj c 215))= .ok () W1:=λc hc=>by
    rw[<-hD,<-tf];exact cf (P:=ac) V 215 c #[Z U f,Z U o,Z U v,Z U (x:cj)] (by show _=qt 4;kernel_rfl) hc (by simp[br])
   have yq:aq wr.heap.size wr W1:=by rw[<-tf];exact rS.out.alloc rS.out.size _
   have yr:W1.heap[D]?=qt (rj #[Z U f,Z U o,Z U v,Z U (x:cj)] 215 (0,0)):=by rw[<-tf,<-hD];exact alloc_at _ _
   have vp:=zH yq;have yv:=zH yr;have D0:wr.heap.size<=D:=by rw[<-hD];exact rS.out.size
   (try rw[hD]);refine hK _ _ (te.out _ (rS.out.alloc rS.out.size _)) ?_;have yy:=zH tf;clear hK yq yr tf;(try go_simp);refine yO 13 rfl λK' hK=> ?_;go_simp;(try simp only[hst]);(try go_simp);(try rw[yy.out]);refine hK _ _ (te.out _ vp.out) ?_;clear hK hst;refine⟨by kernel_rfl, ?_⟩;clear CC B9 d yp Cd yk HV hD rS yy te;obtain⟨V2,tE⟩:=zE W1.drew;have tG:aq wr.heap.size wr V2:=by rw[<-tE];exact vp.out.drew
   have yW:V2.heap[D]?=qt (rj #[Z U f,Z U o,Z U v,Z U (x:cj)] 215 (0,0)):=by rw[<-tE];exact yv.out
   have sq:=HP.out.grow tG;have c6:V2.cell? ⟨T,6,qu⟩=qt (ra s1.tdA p1.td.length s1.tdC):=(rowAt sq.row 6 rfl).1;have f6:=(rowAt sq.row 6 rfl).2;rw[HG.out,vn.out] at c6;obtain⟨S2,vq⟩:=zE ((λW=>W=V2):World->Prop);have CD:S2 V2:=by rw[<-vq]
   have d:ca (∀W,S2 W->W.cell? ⟨T,6,qu⟩=qt (ra (qt ⟨g,0,qu⟩) (n+1) s1.tdC)/\T<W.heap.size/\g<W.heap.size):=λW A=>by
    rw[<-vq] at A;rw[A];have:V2.cell? ⟨T,6,qu⟩=qt (ra s1.tdA p1.td.length s1.tdC):=(rowAt sq.row 6 rfl).1;rw[HG.out,vn.out] at this;exact⟨this,aa sq.row,cn rI tG.size⟩
   have sr:=sq.popped vm.out;rw[HG.out,HN.out] at sr;have tM:=zH yW;have vr:=zH tG;have th:=zH sr;have zc:=zH tE;clear yW tG sq sr vq tE
   go_upto_region 2 with(fail)
   refine ah 14 S2 (by kernel_rfl) ?_;rw[zc.out];refine zT 0 rfl d.out ?_;(try go_simp);refine zT 1 rfl d.out ?_;(try go_simp);refine zT 2 rfl d.out ?_;(try go_simp);refine zT 3 rfl d.out ?_;(try go_simp);refine zT 4 rfl d.out ?_;(try go_simp);refine zT 5 rfl d.out ?_;(try go_simp);refine zT 6 rfl d.out ?_;(try go_simp);refine zT 7 rfl d.out ?_;(try go_simp);refine zT 8 rfl d.out ?_;(try go_simp);refine zT 9 rfl d.out ?_;(try go_simp);refine zT 10 rfl d.out ?_;(try go_simp);refine zT 11 rfl d.out ?_;(try go_simp);refine zT 12 rfl d.out ?_;(try go_simp);refine zT 13 rfl d.out ?_;(try go_simp);refine zK rfl λK' hK=> ?_;go_simp;refine hK _ _ ?_;clear hK c6 f6;refine⟨by kernel_rfl, ?_⟩;obtain⟨W3,zd⟩:=zE (V2.setCell ⟨T,6,qu⟩ (ra (qt ⟨g,0,qu⟩) n s1.tdC));rw[zd] at th⊢;obtain⟨sx,s2,vt,vu,sy⟩:=th.out;obtain⟨p2,ti⟩:=zE ({p1 with td:=td}:PS);rw[ti] at vt;have CH:ca (p2.far<gk):=by rw[<-ti];exact yb.out
   have zj:J2 (aL 0 l) (aR l) (dN l) (aF l) (f,o,v) x (p2.fl (f,o,v)) (p2.gl (f,o,v)) p2:=by
    rw[<-ti];exact ye.out.pop vm.out
   have zp:(((f,o,v):Nd),x)∈p2.H:=by rw[<-ti];exact yi.out
   have zr:ca (Ext (λk=>tg1 k≠ .no/\¬Z0 (tg1 k)) wr W3):=(Ext.of_below_size vr.out).trans (vu.mono λk hk=>⟨hk.1,id⟩) (λk hk=> .inl hk);have CM:ca ((∀k,sx k≠ .no->tg1 k≠ .no\/wr.heap.size<=k)/\∀k,tg1 k≠ .no->sx k=tg1 k):=⟨λk hk=>(sy.1 k hk).imp id (λh=>cE vr.out.size h),sy.2⟩
   have zv:sx D= .no:=eq λe=>by
    have:=(HP.out.lo D)
    rcases sy.1 D e with q|q
    ·have:=(HP.out.lo D q).2;omega
    ·have:=aa tM.out;omega
   have An:=vu.heap tM.out (λe=>by
    rcases sy.1 D (by rw[sy.2 D e.1];exact e.1) with q|q
    ·have:=(HP.out.lo D q).2;omega
    ·have:=aa tM.out;omega)
   have As:=zH vt;have tP:=zH zj;have At:=zH zp;have tR:=zH zv;have vx:=zH An;clear th vt vu sy zj zp ti zv An tM yv vp vr zc zd yb ye vm HN vn yi HG CD d B8 Cl Cp CA B7 rI;obtain⟨V3,vy⟩:=zE W3.drew;have rn:aq W3.heap.size W3 V3:=by rw[<-vy];exact(an _ _).drew
   have K:=As.out.grow rn;have rr:=(rn.block D (aa vx.out)).trans vx.out;have CN:ca (Ext (λk=>tg1 k≠ .no/\¬Z0 (tg1 k)) wr V3):=zr.out.trans (Ext.of_below_size (M:=λ_=>jp) rn) (λ_ h=>h.elim);have rl:=K.lookF tB.out;unfold jE at rl;obtain⟨ao,cap,Ax,tS,tU⟩:=K.fs _ tB.out;rw[Ax] at rl tS tU;obtain⟨F,hF⟩:=zE (p2.fl (f,o,v));obtain⟨G,hG⟩:=zE (p2.gl (f,o,v));rw[hF] at rl tS tU;rw[hF,hG] at tP;obtain⟨S3,tW⟩:=zE ((λW=>W=V3):World->Prop);have CT:S3 V3:=by rw[<-tW]
   have d:ca (∀W,S3 W->W.cell? ⟨T,4,qu⟩=qt (.map (qt FM))/\T<W.heap.size/\D<W.heap.size/\(fk 144 (.map (qt FM)) (rh #[Z U f,Z U o,Z U v]) qS).run ac W= .ok (ra ao F.length cap) W):=λW A=>by
    rw[<-tW] at A;rw[A];exact⟨(rowAt K.row 4 rfl).1,aa K.row,aa rr,rl⟩
   have tj:ca (∀W,S3 W->∀j u,(#[Z U f,Z U o,Z U v]:cG bw).toList[j]?=qt u->W.cell? ((⟨D,0,qu⟩:oA).add j)=qt u):=λW A j u J=>by
    rw[<-tW] at A;rw[A,cM,cH,bh _ _ _ _ _ _ rr];rcases j with _|_|_|j
    ·exact J
    ·exact J
    ·exact J
    ·simp at J
   have D1:F.length<=400000000:=by
    have:=(tP.out.lens (λx hx=>(HX.out x hx).2.2.2.2.2.2.2) HL.out).2.1;rw[<-hF];unfold PS.fl;rw[dj];exact cE (ke _ _) (by omega)
   have AD:=zH K;have tl:=zH rr;have AE:=zH tS;have AF:=zH tU;have AG:=zH hF;have ua:=zH hG;have wa:=zH vy;clear vy rn K rr rl Ax tS tU hF hG tW zr As vx sk
   go_upto_region 3 with(fail)
   refine bQ S3 (by kernel_rfl) ?_;rw[wa.out];refine yT 0 rfl d.out ?_;(try go_simp);refine yT 1 rfl d.out ?_;(try go_simp);refine yT 2 rfl d.out ?_;(try go_simp);refine yT 3 rfl d.out ?_;(try go_simp);refine yT 4 rfl d.out ?_;(try go_simp);refine yL 5 rfl 164 ⟨D,0,qu⟩ tj.out cD ?_;(try go_simp);refine yT 6 rfl d.out ?_;(try go_simp);refine yT 7 rfl d.out ?_;(try go_simp);refine yT 8 rfl d.out ?_;(try go_simp);refine⟨by kernel_rfl, ?_⟩;clear d tj CT
   go_wp2_with fail
   go_loopw [48] (λc wq=>∃j:cd,j<=F.length/\c= Z U (j:cj)/\D7 l T HM FM GM m B sx (f,o,v) x p2 F G j V3 wq) (λc _=>F.length-(intOf c).toNat)
   case atStart=>exact⟨0,cJ _,rfl,p2,tP.out,AD.out.same (an _ _),rfl,rfl,At.out,bp _⟩
   case round=>
    obtain⟨j,hj,rfl,p',rK,AH,ub,tm,tn,uc⟩:=hrel
    by_cases wb:j<F.length
    ·obtain⟨⟨R,b2,b3⟩,hy⟩:∃y,F[j]?=qt y:=⟨_,am wb⟩
     have C3:(j:cj)<(F.length:cj):=by omega
     obtain⟨tg',s',tp,rm,sB⟩:=AH;obtain⟨fg,rfl,we,AI⟩:=mO lQ 3 (λ_=>rfl) AE.out hy;obtain⟨y1,y2,y3⟩:=AR (W:=wr) (l:=F) (k:=j*3) (g:=fg) (j:=j) (λi u J=>by
      rw[rm.cell (a:=⟨fg,j*3+i,qu⟩) we (λe=>e.2 (.inl ⟨_,AF.out fg rfl⟩))];exact AI i u J)
     have D2:fg<wr.heap.size:=cn we rm.size;have AK:=D7.okY HX.out HL.out AG.out hy rK ub tn;have se:=rm.heap tl.out (λe=>e.1 tR.out);obtain⟨N,hN⟩:=zE wr.heap.size;obtain⟨W5,rL⟩:=zE (wr.alloc (rj #[Z U R,Z U b2,Z U b3] 164));have hst:=λc hc=>iB wr c R b2 b3 hc;simp only[lQ] at hst;rw[hN,show(([Z U R,Z U b2,Z U b3]:bm bw).toArray)=#[Z U R,Z U b2,Z U b3] from rfl,rL] at hst;have rv:=iF rL;have sE:W5.heap[N]?=qt (rj #[Z U R,Z U b2,Z U b3] 164 (0,0)):=by rw[<-rL,<-hN];exact alloc_at _ _
     have tr:=(rv.block D (aa se)).trans se;have AM:W5.cell? ⟨D,3,qu⟩=qt (Z U (x:cj)):=(rowAt tr 3 rfl).1;have rN:=tp.grow rv;have AN:=rK.lens (λx hx=>(HX.out x hx).2.2.2.2.2.2.2) HL.out;have C4:=zH (ku W5 rN AK (x:=x) (by omega) (by omega) (by omega));have tt:=zH sE;have tv:=zH rv;have wg:=zH rK;have C5:=zH rm;have wi:=zH sB;have C6:=zH ub;have wj:=zH tm;have wk:=zH tn;have wl:=zH uc;have HY:=zH hy;clear hy tp rm sB we AI AK se rv sE tr rN AN rK ub tm tn uc
     go_wp2_with (first
      |(refine bo rfl 164 _ rfl N rfl 164 #[Z U R,Z U b2,Z U b3] (0,0) _ tt.out cD rfl (by kernel_rfl) ?_)
      |(go_at_call 120;refine C4.out.mono ?_;rintro e w2 ⟨rfl,sr⟩;have th:=zH sr;clear sr))
     go_roundw
     case rel=>exact⟨j+1,by omega,by go_num,D7.step HX.out HL.out AG.out HY.out wg.out C6.out wj.out wk.out wl.out (bn.step C5.out wi.out (bn.below tv.out th.out))⟩
     case measure=>simp[intOf];omega
    ·have wn:j=F.length:=by omega
     subst wn;obtain⟨tg',s',tp,rm,sB⟩:=AH;rw[n8] at rK;have ws:p'.gl (f,o,v)=G:=by rw[<-ua.out];unfold PS.gl;rw[tm]
     obtain⟨V4,wx⟩:=zE wr.drew;have rn:aq wr.heap.size wr V4:=by rw[<-wx];exact(an _ _).drew
     have K:=tp.grow rn;have AS:tg' D= .no:=eq λe=>by
      rcases sB.1 D e with q|q
      ·exact q tR.out
      ·have:=aa tl.out;omega
     have rr:=(rn.block D (cn (aa tl.out) rm.size)).trans (rm.heap tl.out (λe=>e.1 tR.out));have C7:ca (Ext (λk=>sx k≠ .no/\¬Z0 (sx k)) V3 V4):=(rm.mono λk hk=>⟨hk.1,id⟩).trans (Ext.of_below_size (M:=λ_=>jp) rn) (λ_ h=>h.elim);have rl:=K.lookG tB.out;unfold jE at rl;obtain⟨Dd,Dg,AT,ud,ue⟩:=K.gs _ tB.out;rw[AT] at rl ud ue;rw[ws] at rl ud ue;obtain⟨S4,ur⟩:=zE ((λW=>W=V4):World->Prop);have Do:S4 V4:=by rw[<-ur]
     have d:ca (∀W,S4 W->W.cell? ⟨T,5,qu⟩=qt (.map (qt GM))/\T<W.heap.size/\D<W.heap.size/\(fk 145 (.map (qt GM)) (rh #[Z U f,Z U o,Z U v]) qS).run ac W= .ok (ra Dd G.length Dg) W):=λW A=>by
      rw[<-ur] at A;rw[A];exact⟨(rowAt K.row 5 rfl).1,aa K.row,aa rr,rl⟩
     have tj:ca (∀W,S4 W->∀j u,(#[Z U f,Z U o,Z U v]:cG bw).toList[j]?=qt u->W.cell? ((⟨D,0,qu⟩:oA).add j)=qt u):=λW A j u J=>by
      rw[<-ur] at A;rw[A,cM,cH,bh _ _ _ _ _ _ rr];rcases j with _|_|_|j
      ·exact J
      ·exact J
      ·exact J
      ·simp at J
     have D3:G.length<=400:=by
      have:=(rK.lens (λx hx=>(HX.out x hx).2.2.2.2.2.2.2) HL.out).2.2.2;rw[<-ws];unfold PS.gl;rw[dj];exact cE (ke _ _) (by omega)
     have Ds:=zH K;have DA:=zH rr;have DB:=zH ud;have DE:=zH ue;have wg:=zH rK;have wi:=zH sB;have wa:=zH wx;have DG:=zH AS;have wj:=zH tm;have wk:=zH tn;have wl:=zH uc;clear wx rn K rr rl AT ud ue ws ur rK sB AS rm tp tm tn uc ub AE AF AD tP At tl tR
     go_upto_region 8 with(fail)
     refine bQ S4 (by kernel_rfl) ?_;rw[wa.out];refine yT 0 rfl d.out ?_;(try go_simp);refine yT 1 rfl d.out ?_;(try go_simp);refine yT 2 rfl d.out ?_;(try go_simp);refine yT 3 rfl d.out ?_;(try go_simp);refine yT 4 rfl d.out ?_;(try go_simp);refine yL 5 rfl 164 ⟨D,0,qu⟩ tj.out cD ?_;(try go_simp);refine yT 6 rfl d.out ?_;(try go_simp);refine yT 7 rfl d.out ?_;(try go_simp);refine yT 8 rfl d.out ?_;(try go_simp);refine⟨by kernel_rfl, ?_⟩;clear d tj Do
     go_wp2_with fail
     go_loopw [66] (λc wq=>∃j:cd,j<=G.length/\c= Z U (j:cj)/\Dx l T HM FM GM m B tg' (f,o,v) x p2 G j V4 wq) (λc _=>G.length-(intOf c).toNat)
     case atStart=>exact⟨0,cJ _,rfl,p',wg.out,Ds.out.same (an _ _),wj.out,wk.out,wl.out⟩
     case round=>
      obtain⟨j,hj,rfl,p4,sL,xf,uv,xj,ux⟩:=hrel
      by_cases wb:j<G.length
      ·obtain⟨⟨q,⟨R,b2,b3⟩,b⟩,hy⟩:∃y,G[j]?=qt y:=⟨_,am wb⟩
       have C3:(j:cj)<(G.length:cj):=by omega
       obtain⟨DH,s5,rN,sf,va⟩:=xf;obtain⟨gg,rfl,rI,sY⟩:=mO DW 5 (λ_=>rfl) DB.out hy;obtain⟨y1,y2,y3,y4,y5⟩:=Dl (W:=wr) (k:=j*5) (g:=gg) (λi u J=>by
        rw[sf.cell (a:=⟨gg,j*5+i,qu⟩) rI (λe=>e.2 ⟨_,DE.out gg rfl⟩)];exact sY i u J)
       have D4:gg<wr.heap.size:=cn rI sf.size;have AW:(((f,o,v):Nd),((q,(R,b2,b3),b):Th))∈dN l:=by
        have:=Dx.mem ua.out hy uv;rw[sL.gl] at this;exact this
       have xl:=oK HX.out _ AW;have A0:fV (R,b2,b3):=xl.2.2;have A1:fV (-1,(x:cj),q):=vG (fZ (by omega)) xl.2.1;have se:=sf.heap DA.out (λe=>e.1 DG.out);obtain⟨N,hN⟩:=zE wr.heap.size;obtain⟨W5,rL⟩:=zE (wr.alloc (rj #[Z U q,Z U R,Z U b2,Z U b3,re b] 213));have hst:=λc hc=>Ch wr c q R b2 b3 b hc;rw[hN,rL] at hst;have rv:=iF rL;have sE:W5.heap[N]?=qt (rj #[Z U q,Z U R,Z U b2,Z U b3,re b] 213 (0,0)):=by rw[<-rL,<-hN];exact alloc_at _ _
       have tr:=(rv.block D (aa se)).trans se;have AM:W5.cell? ⟨D,3,qu⟩=qt (Z U (x:cj)):=(rowAt tr 3 rfl).1;have DM:W5.cell? ⟨N,0,qu⟩=qt (Z U q):=(rowAt sE 0 rfl).1;have A2:=rN.grow rv;have DO:=zH (lg (x:cj) q W5);have tt:=zH sE;have tv:=zH rv;have DP:=zH A2;have rx:=zH sL;have A3:=zH sf;have A4:=zH va;have A5:=zH uv;have A6:=zH xj;have Bk:=zH ux;have HY:=zH hy;have Bm:=zH A0;have By:=zH A1;clear rN sf va rI sY AW xl A0 A1 se rv sE tr A2 sL uv xj ux hy
       go_upto_if 76 with(first
        |(go_at_call 79;refine DO.out.mono ?_;rintro e W6 ⟨rfl,BE⟩;have sR:=zH BE;clear BE;obtain⟨N6,xo⟩:=zE W6.heap.size;obtain⟨W7,sT⟩:=zE (W6.alloc (rj #[Z U (-1),Z U (x:cj),Z U q] 164));have xp:=λc hc=>iB W6 c (-1) (x:cj) q hc;simp only[lQ] at xp;rw[xo,show(([Z U (-1),Z U (x:cj),Z U q]:bm bw).toArray)=#[Z U (-1),Z U (x:cj),Z U q] from rfl,sT] at xp;have xr:=((iF sT).block N (cn (aa tt.out) sR.out.size)).trans ((sR.out.block N (aa tt.out)).trans tt.out);have BT:W7.cell? ⟨N,4,qu⟩=qt (re b):=(rowAt xr 4 rfl).1;have xt:=zH xr;clear xr;simp only[jE,kP]))
       have BY:aq wr.heap.size wr W7:=tv.out.trans ((sR.out.mono tv.out.size).trans ((iF sT).mono (cE tv.out.size sR.out.size)));have vc:W7.heap[N6]?=qt (rj #[Z U (-1),Z U (x:cj),Z U q] 164 (0,0)):=by rw[<-sT,<-xo];exact alloc_at _ _
       have Ek:W7.cell? ⟨N6,0,qu⟩=qt (Z U (-1)):=(rowAt vc 0 rfl).1;have EP:W7.cell? ⟨N6,1,qu⟩=qt (Z U (x:cj)):=(rowAt vc 1 rfl).1;have EQ:W7.cell? ⟨N6,2,qu⟩=qt (Z U q):=(rowAt vc 2 rfl).1;have ER:W7.cell? ⟨N,1,qu⟩=qt (Z U R):=(rowAt xt.out 1 rfl).1;have ES:W7.cell? ⟨N,2,qu⟩=qt (Z U b2):=(rowAt xt.out 2 rfl).1;have ET:W7.cell? ⟨N,3,qu⟩=qt (Z U b3):=(rowAt xt.out 3 rfl).1;have vd:=DP.out.grow ((sR.out).trans ((iF sT).mono sR.out.size));have AN:=rx.out.lens (λx hx=>(HX.out x hx).2.2.2.2.2.2.2) HL.out;have EU:=dU (l:=l);have EV:=HL.out;have B4:=zH BY;clear BY vc xp hst sT rL xo hN AM DM;cases b with
       |false=>
        clear BT;have xF:=zH (dW W7 vd By.out Bm.out (λn y h=>by have:=fU (rx.out.snd _ h);omega) (by omega) (by omega) (by omega));clear vd
        go_wp2_with (first
         |(go_at_call 119;refine xF.out.mono ?_;rintro e w8 ⟨rfl,p5,tz,tA⟩;have xT:=zH tA;have ya:=zH tz;clear tA tz))
        go_roundw
        case rel=>exact⟨j+1,by omega,by go_num,Dx.step HX.out HL.out ua.out HY.out rx.out A5.out A6.out Bk.out ya.out (bn.step A3.out A4.out (bn.below B4.out xT.out))⟩
        case measure=>simp[intOf];omega
       |true=>
        clear BT;have xF:=zH (dW W7 vd Bm.out By.out (λn y h=>by have:=fU (rx.out.snd _ h);omega) (by omega) (by omega) (by omega));clear vd
        go_wp2_with (first
         |(go_at_call 119;refine xF.out.mono ?_;rintro e w8 ⟨rfl,p5,tz,tA⟩;have xT:=zH tA;have ya:=zH tz;clear tA tz))
        go_roundw
        case rel=>exact⟨j+1,by omega,by go_num,Dx.step HX.out HL.out ua.out HY.out rx.out A5.out A6.out Bk.out ya.out (bn.step A3.out A4.out (bn.below B4.out xT.out))⟩
        case measure=>simp[intOf];omega
      ·have wn:j=G.length:=by omega
       subst wn;rw[n8] at sL;have B5:ca (bn Z0 T HM FM GM m B tg p4 w wr):=bn.step HE.out HT.out (bn.step CN.out CM.out (bn.step C7.out wi.out (xf.weak λ_ h=>h.elim)));obtain⟨DH,s5,rN,sf,va⟩:=xf;have sk:wr.cell? ⟨T,6,qu⟩=qt (ra s5.tdA p4.td.length s5.tdC):=(rowAt rN.row 6 rfl).1;have rx:=zH sL;have DQ:ca (p4.far<gk):=Nat.lt_of_le_of_lt ux CH.out;clear rN sf va sL uv xj ux;rcases oR p4.td.length with h0|h0
       ·rw[h0] at sk
        have HR:ca (∃p',p'.td=[]/\p'.St=p.St/\(∀m y,(m,y)∈p'.H↔Lf (aL 0 l) (aR l) (dN l) m y)/\bn Z0 T HM FM GM m B tg p' w wr):=
         ⟨p4,cY h0,rx.out.st.trans HJ.out.st.symm,λm y=>rx.out.done (cY h0),B5.out⟩
        clear h0;go_wp2;(try simp only[Exit.noGoto]);refine j9 (eR rfl _ _ _) rfl ?_;exact⟨rfl,HR.out⟩
       ·obtain⟨k,hk⟩:=zE p4.td.length
        rw[hk] at sk h0;have EW:((k:cj)==0)=qS:=by simp;omega
        have EX:¬(k:cj)=0:=by omega
        clear hk;go_wp2
        go_roundg p4.far
        case measure=>exact DQ.out
        case rel=>exact⟨p4,(f,o,v),x,rx.out,B5.out,bp _⟩
end
end
end Go.Proofs.YtjomgckjhcfbgaaGreat
