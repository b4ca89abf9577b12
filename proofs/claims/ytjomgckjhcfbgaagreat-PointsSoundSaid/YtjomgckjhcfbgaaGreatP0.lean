/- Walks. -/
import Derived.Test.YtjomgckjhcfbgaaGreatY18
import Derived.Deep.AppendLies
import Derived.Test.YtjomgckjhcfbgaaGreatY0
import Derived.Test.YtjomgckjhcfbgaaGreatY14
import Derived.Test.YtjomgckjhcfbgaaGreatY15
import Derived.Test.YtjomgckjhcfbgaaGreatY16
set_option maxRecDepth 100000
set_option maxHeartbeats 64000000
set_option linter.all false
namespace Go.Proofs.YtjomgckjhcfbgaaGreat
open Go.RowKit
open _root_.List renaming getElem?_eq_getElem→ac,getElem?_eq_some_iff→ag,mem_of_getElem?→ap,getElem?_append_left→ax,getElem?_append_right→aE,replicate→bc,getElem?_set_self→be,getElem?_set_ne→bj,mem_singleton→bw,length_append→ca,length_singleton→cb,getElem?_map→cd,length_set→ck,flatMap_cons→co,flatMap_append→cr,mem_append→cv,set_append_right→cw,getElem_singleton→cD,set_cons_zero→cF,eq_of_mem_replicate→cN,getElem_map→cQ,mem_flatMap→cT,flatMap_singleton→cX,ext_getElem?→dd,length_map→dp
open _root_.Int renaming toNat_natCast→am,toNat_of_nonneg→bz,le_refl→cI
open _root_ renaming Int→aq,if_neg→bl,Nat→bo,List→bq,if_pos→bx,absurd→cm,Option→cL,decide_eq_true_eq→cW
open _root_.Option.some renaming inj→ar
open Go renaming seen→bd,heap_setCell_same→b5,Value→cy
open _root_.Nat renaming lt_of_lt_of_le→bh,le_refl→bA,sub_self→bR,zero_add→ch,le_trans→ci
open _root_.Prod.mk renaming injEq→br
open Go.RowKit renaming Below→bt
open _root_.Classical renaming byContradiction→b7
open _root_.Bool renaming and_eq_true→ct,true→dS,false→dT
open Go.Value.slice renaming injEq→cz
open Go.Value renaming ownBlock→cC,int→dg,slice→ee,pointer→eg,bool→eh,int→Z
open _root_.Option renaming bind_some→cH,some→dy,none→dD
open Go.Obj renaming cells→el
open Go.IntKind renaming i64→U
open Go.Proofs.Tryz
theorem wU {f:aq}{x:XI}:∀{l:bq Ins}{k:bo},x∈eu f k l->∃q:bo,l[q]?=dy x.2.2/\x.1=f/\x.2.1=((k+q:bo):aq)
 |[],_,h=>by simp[eu] at h
 |i::r,k,h=>by
  unfold eu at h;rcases List.mem_cons.1 h with rfl|h
  ·exact⟨0,rfl,rfl,rfl⟩
  ·obtain⟨q,a,b,c⟩:=wU h
   exact⟨q+1,by simpa using a,b,by rw[c];congr 1;omega⟩
theorem Au {x:XI}:∀{l:bq Fn}{f:bo},x∈eZ f l->∃(j q:bo) (g:Fn),l[j]?=dy g/\g.c.ins[q]?=dy x.2.2/\x.1=((f+j:bo):aq)/\x.2.1=(q:aq)
 |[],_,h=>by simp[eZ] at h
 |g::r,f,h=>by
  unfold eZ at h;rcases cv.1 h with h|h
  ·obtain⟨q,a,b,c⟩:=wU h
   exact⟨0,q,g,rfl,a,by rw[b];rfl,by rw[c,ch]⟩
  ·obtain⟨j,q,u,a,b,c,d⟩:=Au h
   exact⟨j+1,q,u,by simpa using a,b,by rw[c];congr 1;omega,d⟩
theorem kZ {m:Mo}{x:XI}(h:x∈m.xi):∃(j k:bo) (g:Fn) (i:Ins),m.fs[j]?=dy g/\g.c.ins[k]?=dy i/\x=((j:aq),(k:aq),i):=by
 obtain⟨j,k,g,a,b,c,d⟩:=Au h;refine⟨j,k,g,x.2.2,a,b, ?_⟩;rw[ch] at c;exact Prod.ext c (Prod.ext d rfl)
theorem ql {n:Nd}{y:bo}:∀{l:bq XI}{c:bo},(n,y)∈aN c l->∃(x:XI) (q:bo),x∈l/\x.2.2.op=12/\n=av x.1 x.2.2.d/\y=c+q/\(aj l)[q]?=dy (x.1,x.2.1)
 |[],_,h=>by simp[aN] at h
 |x::r,c,h=>by
  unfold aN at h;have e:aj (x::r)=iK x.1 x.2.1 x.2.2++aj r:=by unfold aj;rw[co]
  rw[e];rcases cv.1 h with h|h
  ·unfold mi at h
   unfold iK
   by_cases u:x.2.2.op=12
   ·rw[bx u,bw] at h
    rw[bx u];exact⟨x,0,by simp,u,congrArg Prod.fst h,congrArg Prod.snd h,rfl⟩
   ·rw[bl u] at h
    simp at h
  ·obtain⟨x',q,a,b,d,f,g⟩:=ql h
   refine⟨x',(iK x.1 x.2.1 x.2.2).length+q,by simp[a],b,d,by rw[f,Nat.add_assoc], ?_⟩;rw[aE (by omega),Nat.add_sub_cancel_left];exact g
def Mo.siteI (m:Mo)(y:bo):cL Ins:=(aj m.xi)[y]?.bind λp=>(m.fs[p.1.toNat]?).bind λg=>g.c.ins[p.2.toNat]?
def Mo.siteS (m:Mo)(y:bo):cL St:=(m.siteI y).bind λi=>m.ss[i.f.toNat]?
inductive pF (m:Mo):Nd->Ty->Prop
 |var {f:bo} {g:Fn} {v:aq}:m.fs[f]?=dy g->0<=v->v<g.vs.length->pF m (av (f:aq) v) (az g.vs v)
 |res {f:bo} {g:Fn}:m.fs[f]?=dy g->pF m (cZ (f:aq)) g.ret
 |fld {y k:bo} {s:St} {x:Fd}:m.siteS y=dy s->s.fs[k]?=dy x->pF m (bN (y:aq) (k:aq)) x.ty
theorem gZ {m:Mo}{n:Nd}{t1 t2:Ty}(A:pF m n t1)(v:pF m n t2):t1=t2:=by
 cases A with
 |var a b c=>
  generalize f:av _ _=z at v;cases v with
  |var h u c'=>
   simp only[av,br,Int.ofNat_inj] at f;obtain⟨rfl,rfl,_⟩:=f;rw[a] at h;rw[ar h]
  |res h=>
   simp only[av,cZ,br] at f;omega
  |fld h u=>
   simp only[av,bN,br] at f;omega
 |res a=>
  generalize f:cZ _=z at v;cases v with
  |var h u c'=>
   simp only[av,cZ,br] at f;omega
  |res h=>
   simp only[cZ,br,Int.ofNat_inj] at f;obtain⟨rfl,_⟩:=f;rw[a] at h;rw[ar h]
  |fld h u=>
   simp only[cZ,bN,br] at f;omega
 |fld a b=>
  generalize f:bN _ _=z at v;cases v with
  |var h u c'=>
   simp only[av,bN,br] at f;omega
  |res h=>
   simp only[cZ,bN,br] at f;omega
  |fld h u=>
   simp only[bN,br,Int.ofNat_inj,true_and] at f;obtain⟨rfl,rfl⟩:=f;rw[a] at h;obtain rfl:=ar h;rw[b] at u;rw[ar u]
section
variable {m:Mo}
theorem mW (J:bf m=0){s v:St}{q:bo}(u:m.ss[q]?=dy s)(h:m.ss[(m.stIx s.s.nm).toNat]?=dy v):v=s:=by
 have L:=(ag.1 u).1;have N:(m.ss.map λs=>s.s.nm).Nodup:=by
  have z:=(dJ J).2.2.1;unfold dz at z;simp only[Bool.or_eq_false_iff,decide_eq_false_iff_not,Classical.not_not] at z;exact z.1.2
 unfold Mo.stIx fT at h;have E:m.ss.findIdx (λx=>x.s.nm==s.s.nm)<m.ss.length:=by
  rw[List.findIdx_lt_length];exact⟨s,ap u,by simp⟩
 rw[bx E] at h;have O:=List.findIdx_getElem (p:=λx:St=>x.s.nm==s.s.nm) (w:=E);obtain⟨G,A⟩:=ag.1 h;simp only[am] at G A;have P:v.s.nm=s.s.nm:=by
  rw[<-A];simpa using O
 have I:=(List.pairwise_iff_getElem.1 N)
 have Q:∀(a b:bo)(C:a<m.ss.length) (D:b<m.ss.length),m.ss[a].s.nm=m.ss[b].s.nm->a=b:=λa b C D e=>by
  rcases Nat.lt_trichotomy a b with f|f|f
  ·exact cm (by rw[cQ,cQ];exact e) (I a b (by simpa using C) (by simpa using D) f)
  ·exact f
  ·exact cm (by rw[cQ,cQ];exact e.symm) (I b a (by simpa using D) (by simpa using C) f)
 have T:=(ag.1 u).2;have:=Q _ _ G L (by rw[A,T];exact P);rw[am,this,u] at h;exact(ar h).symm
theorem pG {z:bq Vr}{i:Ins}{o:aq}(h:bV m z i o dS=0):(az z i.a).1=dS/\0<=i.f/\∃(s:St) (x:Fd),m.ss[(m.stIx (az z i.a).2).toNat]?=dy s/\s.fs[i.f.toNat]?=dy x/\x.ty=az z o/\x.ty.1=dS:=by
 unfold bV at h
 by_cases C:(aI m z i.a i.f).2≠0
 ·rw[bx C] at h;exact cm h C
 ·rw[bl C] at h
  have u:(aI m z i.a i.f).2=0:=b7 C;have v:=iZ (by decide) h;rw[ct,beq_iff_eq,beq_iff_eq] at v;obtain⟨v,A⟩:=v;unfold aI at u v A
  by_cases D:(az z i.a).1=dT
  ·rw[bx D] at u;exact cm u (by simp)
  ·rw[bl D] at u v A
   cases G:m.ss[(m.stIx (az z i.a).2).toNat]? with
   |none=>rw[G] at u;exact cm u (by simp)
   |some s=>
    rw[G] at u v A;simp only at u v A
    by_cases I:i.f<0
    ·rw[bx I] at u;exact cm u (by simp)
    ·rw[bl I] at u v A
     cases E:s.fs[i.f.toNat]? with
     |none=>rw[E] at u;exact cm u (by simp)
     |some x=>
      rw[E] at v A;exact⟨by simpa using D,by omega,s,x,rfl,E,v,A⟩
theorem pI {g:Fn}{i:Ins}(f:aD m g i=0)(h:i.op=10\/i.op=11):bV m g.vs i (if i.op=10 then i.d else i.b) dS=0:=by
 unfold aD ay at f;rcases h with h|h
 ·simp only[h] at f⊢
  generalize (aJ g.vs.length (readsOf i++if nZ 10=dS then[i.d] else[]))=z at f;cases z with
  |false=>simp at f
  |true=>simpa using f
 ·simp only[h] at f⊢
  generalize (aJ g.vs.length (readsOf i++if nZ 11=dS then[i.d] else[]))=z at f;cases z with
  |false=>simp at f
  |true=>simpa using f
theorem CB {g:Fn}{i:Ins}(u:aD m g i=0)(h:i.op=12):∃s,m.ss[i.f.toNat]?=dy s/\az g.vs i.d=(dS,s.s.nm)/\0<=i.f:=by
 unfold aD ay at u;simp only[h] at u;generalize (aJ g.vs.length (readsOf i++if nZ 12=dS then[i.d] else[]))=z at u;cases z with
 |false=>simp at u
 |true=>
  simp at u
  split at u
  ·exact cm u (by decide)
  ·rename_i A
   split at u
   ·exact cm u (by decide)
   ·rename_i s v
    have:=iZ (by decide) u;exact⟨s,v,by simpa using this,by omega⟩
theorem E5 {g:Fn}{i:Ins}(f:aD m g i=0)(h:i.op=9):az g.vs i.a=az g.vs i.d:=by
 unfold aD ay at f;simp only[h] at f;generalize (aJ g.vs.length (readsOf i++if nZ 9=dS then[i.d] else[]))=z at f;cases z with
 |false=>simp at f
 |true=>
  simp at f;have:=iZ (by decide) f;simp at this;exact this.2
theorem Gc {g:Fn}{i:Ins}(f:aD m g i=0)(h:i.op=18):az g.vs i.a=g.ret:=by
 unfold aD at f;simp only[h] at f;generalize (aJ g.vs.length (readsOf i++if nZ 18=dS then[i.d] else[]))=z at f;cases z with
 |false=>simp at f
 |true=>
  simp at f;have:=iZ (by decide) f;simpa using this
end
section
variable {m:Mo}
theorem Av {j k y:bo}{g:Fn}{i:Ins}(f:m.fs[j]?=dy g)(u:g.c.ins[k]?=dy i)(h:(aj m.xi)[y]?=dy ((j:aq),(k:aq))):m.siteI y=dy i:=by
 unfold Mo.siteI;rw[h,cH];simp only[am];rw[f,cH];exact u
theorem pJ {y:bo}{s:St}(h:m.siteS y=dy s):∃q:bo,m.ss[q]?=dy s:=by
 unfold Mo.siteS at h;cases f:m.siteI y with
 |none=>rw[f] at h;simp at h
 |some i=>rw[f] at h;exact⟨_,h⟩
theorem CE {u v:bq Vr}:∀{l:bq aq}{c n:bo}{a:aq},iF u v c l=dS->l[n]?=dy a->az u a=az v ((c+n:bo):aq)
 |[],_,_,_,_,h=>by simp at h
 |x::r,c,0,a,h,f=>by
  obtain rfl:x=a:=by simpa using f
  unfold iF at h;rw[ct,beq_iff_eq] at h;exact h.1
 |x::r,c,n+1,a,h,f=>by
  unfold iF at h;rw[ct] at h;have:=CE h.2 (by simpa using f:r[n]?=dy a);rw[this,show c+1+n=c+(n+1) by omega]
theorem wV {f q:aq}{e:Nd×Nd}:∀{l:bq aq}{c:bo},e∈gu f q c l->∃(n:bo) (a:aq),l[n]?=dy a/\e=(av f a,av q ((c+n:bo):aq))
 |[],_,h=>by simp[gu] at h
 |x::r,c,h=>by
  unfold gu at h;rcases List.mem_cons.1 h with rfl|h
  ·exact⟨0,x,rfl,rfl⟩
  ·obtain⟨n,a,u,v⟩:=wV h
   exact⟨n+1,a,by simpa using u,by rw[v,show c+1+n=c+(n+1) by omega]⟩
theorem ug {f:aq}{i:Ins}{e:Nd×Nd}(h:e∈iU f i):(i.op=9/\e=(av f i.a,av f i.d))\/(i.op=15/\((∃(n:bo) (a:aq),i.args[n]?=dy a/\e=(av f a,av i.f (n:aq)))\/e=(cZ i.f,av f i.d)))\/(i.op=18/\e=(av f i.a,cZ f)):=by
 unfold iU at h
 by_cases v:i.op=9
 ·rw[bx v,bw] at h;exact .inl ⟨v,h⟩
 rw[bl v] at h
 by_cases u:i.op=15
 ·rw[bx u] at h
  rcases cv.1 h with h|h
  ·obtain⟨n,a,C,A⟩:=wV h
   rw[ch] at A;exact .inr (.inl ⟨u,.inl ⟨n,a,C,A⟩⟩)
  ·exact .inr (.inl ⟨u,.inr (bw.1 h)⟩)
 rw[bl u] at h
 by_cases z:i.op=18
 ·rw[bx z,bw] at h;exact .inr (.inr ⟨z,h⟩)
 ·rw[bl z] at h;simp at h
theorem uh {f:aq}{i:Ins}{e:Nd×Th}(h:e∈jo f i):(i.op=10/\e=(av f i.a,(i.f,av f i.d,dT)))\/(i.op=11/\e=(av f i.a,(i.f,av f i.b,dS))):=by
 unfold jo at h
 by_cases u:i.op=10
 ·rw[bx u,bw] at h;exact .inl ⟨u,h⟩
 rw[bl u] at h
 by_cases v:i.op=11
 ·rw[bx v,bw] at h;exact .inr ⟨v,h⟩
 ·rw[bl v] at h;simp at h
theorem bH {j:bo}{g:Fn}{v:aq}(h:m.fs[j]?=dy g)(f:isVar g.vs.length v=dS):pF m (av (j:aq) v) (az g.vs v):= .var h (bU f).1 (bU f).2
theorem Aw (J:bf m=0){n:Nd}{y:bo}(h:m.lf n y):∃s,m.siteS y=dy s/\pF m n (dS,s.s.nm):=by
 induction h with
 |base W=>
  obtain⟨x,q,X,Y,T,G,h3⟩:=ql W;obtain⟨j,k,g,i,u,D,rfl⟩:=kZ X;simp only at Y T h3;rw[ch] at G;subst G;have v:=dw J u D;obtain⟨s,hs,A,_⟩:=CB v Y;obtain⟨_,_,_,I,_⟩:=bK v;refine⟨s, ?_, ?_⟩
  ·unfold Mo.siteS
   rw[Av u D h3,cH];exact hs
  ·rw[T,<-A]
   exact bH u (I (by rw[Y];rfl))
 |edge he _ ih=>
  obtain⟨s,T,G⟩:=ih;refine⟨s,T, ?_⟩;obtain⟨x,X,he⟩:=cT.1 he;obtain⟨j,k,g,i,u,D,rfl⟩:=kZ X;have v:=dw J u D;obtain⟨_,_,E,I,q5⟩:=bK v;rcases ug he with⟨h9,e⟩|⟨en,e⟩|⟨es,e⟩
  ·simp only[br] at e
   obtain⟨rfl,rfl⟩:=e;have C:=bH u (E i.a (by unfold readsOf;rw[h9];simp[oH]));rw[gZ G C,E5 v h9];exact bH u (I (by rw[h9];rfl))
  ·obtain⟨c1,g',c2,c3,c4,c5,c6⟩:=nW (q5 en)
   have L:i.f=((i.f.toNat:bo):aq):=(bz c1).symm;rcases e with⟨n,a,hn,e⟩|e
   ·simp only[br] at e
    obtain⟨rfl,rfl⟩:=e;have C:=bH u (E a (by unfold readsOf;rw[bx en];simp[ap hn]));have A:=CE c5 hn;rw[ch] at A;have ev:n<i.args.length:=(ag.1 hn).1;rw[gZ G C,A,L];exact .var c2 (by omega) (by omega)
   ·simp only[br] at e
    obtain⟨rfl,rfl⟩:=e;have et:pF m (cZ i.f) g'.ret:=by rw[L];exact .res c2
    rw[gZ G et,<-c6];exact bH u (I (by rw[en];rfl))
  ·simp only[br] at e
   obtain⟨rfl,rfl⟩:=e;have C:=bH u (E i.a (by unfold readsOf;rw[es];simp[oH]));rw[gZ G C,Gc v es];exact .res u
 |@out a d k x y A _ _ ep eq=>
  obtain⟨s1,N,a2⟩:=ep;obtain⟨s2,b1,b2⟩:=eq;refine⟨s2,b1, ?_⟩;obtain⟨z,hz,A⟩:=cT.1 A;obtain⟨j,q,g,i,u,D,rfl⟩:=kZ hz;have v:=dw J u D;obtain⟨_,_,E,I,_⟩:=bK v;rcases uh A with⟨V,e⟩|⟨_,e⟩
  ·simp only[br,and_true] at e
   obtain⟨rfl,rfl,rfl⟩:=e;have O:=pI v (.inl V);rw[bx V] at O;obtain⟨_,L,s,fd,f1,f2,f3,f4⟩:=pG O;have C:=bH u (E i.a (by unfold readsOf;rw[V];simp[oH]));have er:=gZ C a2;rw[er] at f1;obtain⟨p,hp⟩:=pJ N;obtain rfl:=mW J hp f1;have P:pF m (bN (x:aq) ((i.f.toNat:bo):aq)) fd.ty:= .fld N f2;rw[bz L] at P;rw[gZ b2 P,f3];exact bH u (I (by rw[V];rfl))
  ·simp at e
 |@into a b k x y A _ _ ep eq=>
  obtain⟨s1,N,a2⟩:=ep;obtain⟨s2,b1,b2⟩:=eq;refine⟨s2,b1, ?_⟩;obtain⟨z,hz,A⟩:=cT.1 A;obtain⟨j,q,g,i,u,D,rfl⟩:=kZ hz;have v:=dw J u D;obtain⟨_,_,E,I,_⟩:=bK v;rcases uh A with⟨_,e⟩|⟨Q,e⟩
  ·simp at e
  ·simp only[br,and_true] at e
   obtain⟨rfl,rfl,rfl⟩:=e;have Q:i.op=11:=Q;have O:=pI v (.inr Q);rw[bl (by omega)] at O;obtain⟨_,L,s,fd,f1,f2,f3,f4⟩:=pG O;have C:=bH u (E i.a (by unfold readsOf;rw[Q];simp[oH]));have W:=bH u (E i.b (by unfold readsOf;rw[Q];simp[rz]));have er:=gZ C a2;rw[er] at f1;obtain⟨p,hp⟩:=pJ N;obtain rfl:=mW J hp f1;have P:pF m (bN (x:aq) ((i.f.toNat:bo):aq)) fd.ty:= .fld N f2;rw[bz L] at P;rw[gZ b2 W,<-f3];exact P
end
structure Gd where
 enc:bo->bo->cy
 ok:World->bo->bo->(bo->Bool)->Prop
 keep:∀{w w':World}{b P:bo}{x:bo->Bool},ok w b P x->w'.heap[b]?=w.heap[b]? ->ok w' b P x
 lt:∀{w:World}{b P:bo}{x:bo->Bool},ok w b P x->b<w.heap.size
 congr:∀{w:World}{b P:bo}{x y:bo->Bool},ok w b P x->(∀n,n<P->x n=y n)->ok w b P y
 one:∀b P,(enc b P).oneCell'=dS
structure FR where
 tv:cy
 locs:bq bo
 fl:bo
 P:bo
abbrev Tag:=bo->bo×bo×bo

abbrev X3:=bo->bo->bo->Bool
theorem yI {m:Mo}(D:bf m=0){y:bo}{p:aq×aq}(h:(aj m.xi)[y]?=dy p):∃(j k q:bo) (g:Fn) (i:Ins) (s:St),p=((j:aq),(k:aq))/\m.fs[j]?=dy g/\g.c.ins[k]?=dy i/\i.f=(q:aq)/\m.ss[q]?=dy s/\m.siteS y=dy s:=by
 obtain⟨x,E,u⟩:=cT.1 (ap h);obtain⟨j,k,g,i,v,z,rfl⟩:=kZ E;unfold iK at u
 by_cases A:i.op=12
 ·simp only[bx A,bw] at u
  subst u;obtain⟨s,C,_,G⟩:=CB (dw D v z) A;refine⟨j,k,i.f.toNat,g,i,s,rfl,v,z,(bz G).symm,C, ?_⟩;unfold Mo.siteS;rw[Av v z h,cH];exact C
 ·simp[A] at u
structure Cl where
 al:Bool
 fs:bq aq
 st:aq×aq
 b:bo
structure Fr where
 f:bo
 pc:bo
 v:bq aq
 b:bo
def Ju (m:Mo)(sts:bq (aq×aq))(nd:Nd)(p:aq):Prop:=
 0<=p/\p<=(sts.length:aq)/\∀k:bo,p=(k:aq)+1->∃q y,sts[k]?=dy q/\(aj m.xi)[y]?=dy q/\m.lf nd y
def JG (m:Mo)(sts:bq (aq×aq))(t:Ty)(nd:Nd)(p:aq):Prop:=fO p/\(t.1=dS->Ju m sts nd p)
structure Km (m:Mo)(sts:bq (aq×aq))(c:Cl):Prop where
 ex:∃(y:bo) (s:St),(aj m.xi)[y]?=dy c.st/\m.siteS y=dy s/\c.fs.length=s.fs.length/\∀(k:bo)(fd:Fd)(p:aq),s.fs[k]?=dy fd->c.fs[k]?=dy p->JG m sts fd.ty (bN (y:aq) (k:aq)) p
structure J7 (m:Mo)(sts:bq (aq×aq))(r:Fr):Prop where
 ex:∃g,m.fs[r.f]?=dy g/\r.pc<g.c.ins.length/\r.v.length=g.vs.length/\∀(j:bo)(vr:Vr)(p:aq),g.vs[j]?=dy vr->r.v[j]?=dy p->JG m sts vr.ty (av (r.f:aq) (j:aq)) p
def KX (m:Mo)(a b:Fr):Prop:=∃g q i,m.fs[a.f]?=dy g/\a.pc=q+1/\g.c.ins[q]?=dy i/\i.op=15/\i.f=(b.f:aq)
structure yC (m:Mo)(cs:bq Cl)(l:bq Fr):Prop where
 cells:∀c∈cs,Km m (cs.map Cl.st) c
 frames:∀r∈l,J7 m (cs.map Cl.st) r
 chn:∀(k:bo)(a b:Fr),l[k]?=dy a->l[k+1]?=dy b->KX m a b
section
variable {m:Mo}{sts:bq (aq×aq)}{nd a b:Nd}{p:aq}{t:Ty}{q:aq×aq}{cs:bq Cl}{l pre:bq Fr}{r:Fr}{g:Fn}{i:Ins}
theorem Ju.null:Ju m sts nd 0:=⟨cI _,by omega,λk h=>by omega⟩
theorem Ju.app (h:Ju m sts nd p):Ju m (sts++[q]) nd p:=by
 obtain⟨f,z,u⟩:=h;refine⟨f,by rw[ca];simp;omega,λk v=> ?_⟩;obtain⟨x,y,a,b⟩:=u k v;exact⟨x,y,by rw[ax (ag.1 a).1];exact a,b⟩
theorem Ju.sub (h:Ju m sts a p)(f:∀y,m.lf a y->m.lf b y):Ju m sts b p:=by
 obtain⟨u,v,z⟩:=h;refine⟨u,v,λk A=> ?_⟩;obtain⟨x,y,c,d,e⟩:=z k A;exact⟨x,y,c,d,f y e⟩
theorem KU:fO 0:=by unfold fO;omega
theorem JG.null:JG m sts t nd 0:=⟨KU,λ_=>Ju.null⟩
theorem JG.num (h:fO p)(f:t.1=dT):JG m sts t nd p:=⟨h,λe=>by rw[f] at e;cases e⟩
theorem JG.app (h:JG m sts t nd p):JG m (sts++[q]) t nd p:=⟨h.1,λe=>(h.2 e).app⟩
theorem Km.app {c:Cl}(h:Km m sts c):Km m (sts++[q]) c:=by
 obtain⟨y,s,a,b,c,d⟩:=h.ex;exact⟨y,s,a,b,c,λk f p u v=>(d k f p u v).app⟩
theorem J7.app (h:J7 m sts r):J7 m (sts++[q]) r:=by
 obtain⟨g,a,b,c,d⟩:=h.ex;exact⟨g,a,b,c,λj f p u v=>(d j f p u v).app⟩
theorem yC.top {v:Fr}(h:yC m cs (pre++[r]))(D:v.f=r.f)(E:J7 m (cs.map Cl.st) v):yC m cs (pre++[v]):=by
 refine⟨h.cells,λx G=> ?_,λk a b z u=> ?_⟩
 ·rcases cv.1 G with q|q
  ·exact h.frames x (List.mem_append_left _ q)
  ·rw[bw.1 q];exact E
 ·have I:k+1<(pre++[v]).length:=(ag.1 u).1
  rw[ca,cb] at I;rw[ax (by omega)] at z
  by_cases A:k+1<pre.length
  ·rw[ax A] at u
   exact h.chn k a b (by rw[ax (by omega)];exact z) (by rw[ax A];exact u)
  ·have C:k+1=pre.length:=by omega
   rw[C,aE (bA _),bR] at u;obtain rfl:=ar u;obtain⟨g,q,i,J,L,N,O,P⟩:=h.chn k a r (by rw[ax (by omega)];exact z) (by rw[C,aE (bA _),bR];rfl);exact⟨g,q,i,J,L,N,O,by rw[P,D]⟩
theorem yC.frame (h:yC m cs (pre++[r])):∃g,m.fs[r.f]?=dy g/\r.pc<g.c.ins.length/\r.v.length=g.vs.length/\∀(j:bo)(u:Vr)(p:aq),g.vs[j]?=dy u->r.v[j]?=dy p->JG m (cs.map Cl.st) u.ty (av (r.f:aq) (j:aq)) p:=(h.frames r (by simp)).ex
theorem Jn {f:bq Vr}{j:bo}{u:Vr}(h:f[j]?=dy u):az f (j:aq)=u.ty:=by
 unfold az;rw[am,h]
theorem yC.val (h:yC m cs (pre++[r]))(E:m.fs[r.f]?=dy g){x:aq}(G:isVar g.vs.length x=dS):∃(j:bo) (p:aq),x=(j:aq)/\j<r.v.length/\r.v[j]?=dy p/\JG m (cs.map Cl.st) (az g.vs x) (av (r.f:aq) x) p:=by
 obtain⟨J,z,_,L,I⟩:=h.frame;rw[E] at z;obtain rfl:=ar z;obtain⟨N,O⟩:=bU G;obtain⟨j,rfl⟩:∃j:bo,x=(j:aq):=⟨x.toNat,by omega⟩
 have A:j<r.v.length:=by omega
 obtain⟨p,C⟩:∃p,r.v[j]?=dy p:=⟨_,ac A⟩
 obtain⟨u,D⟩:∃u,g.vs[j]?=dy u:=⟨_,ac (by omega)⟩
 refine⟨j,p,rfl,A,C, ?_⟩;rw[Jn D];exact I j u p D C
theorem yC.put (h:yC m cs (pre++[r]))(A:m.fs[r.f]?=dy g){j C:bo}{p:aq}(E:C<g.c.ins.length)(G:JG m (cs.map Cl.st) (az g.vs (j:aq)) (av (r.f:aq) (j:aq)) p):yC m cs (pre++[⟨r.f,C,r.v.set j p,r.b⟩]):=by
 obtain⟨O,D,_,I,J⟩:=h.frame;rw[A] at D;obtain rfl:=ar D;refine h.top rfl ⟨g,A,E,by simp[I],λk L x z u=> ?_⟩
 by_cases e:j=k
 ·subst e
  have N:j<r.v.length:=by have:=(ag.1 z).1;omega
  simp only[be N] at u;obtain rfl:=ar u;rw[<-Jn z];exact G
 ·simp only[bj e] at u
  exact J k L x z u
theorem yC.go (h:yC m cs (pre++[r]))(u:m.fs[r.f]?=dy g){z:bo}(C:z<g.c.ins.length):yC m cs (pre++[⟨r.f,z,r.v,r.b⟩]):=by
 obtain⟨G,A,_,D,E⟩:=h.frame;rw[u] at A;obtain rfl:=ar A;exact h.top rfl ⟨g,u,C,D,E⟩
theorem JH (E:bf m=0)(G:m.fs[r.f]?=dy g){u:bo}(z:g.c.ins[u]?=dy i)(I:i.op<16):u+1<g.c.ins.length:=by
 have h:=(dJ E).2.2.2.2.1 g (ap G);have J:=(ag.1 z).1;refine b7 λL=> ?_;have e:u+1=g.c.ins.length:=by omega
 unfold codeF at h
 by_cases A:300<g.vs.length\/g.c.ins.length<1\/3000<g.c.ins.length
 ·rw[bx A] at h;exact cm h (by decide)
 ·rw[bl A] at h
  by_cases C:g.c.par<0\/(g.vs.length:aq)<g.c.par
  ·rw[bx C] at h;exact cm h (by decide)
  ·rw[bl C] at h
   by_cases v:aQ (aD m g) g.c.ins≠0
   ·rw[bx v] at h;exact cm h v
   ·rw[bl v] at h
    have D:=iZ (by decide) h;rw[List.getLast?_eq_getElem?,show g.c.ins.length-1=u by omega,z] at D;simp only[cW] at D;omega
theorem IZ {op:aq}(f:aD m g i=0)(e:i.op=op)(u:op≠15)(v:op≠16)(A:op≠17)(C:op≠18):ay m g.vs i=0:=by
 unfold aD at f;rw[e] at f
 by_cases h:op<1\/18<op
 ·rw[bx h] at f;exact cm f (by decide)
 ·rw[bl h] at f
  generalize aJ g.vs.length _=z at f;cases z with
  |false=>rw[bx rfl] at f;exact cm f (by decide)
  |true=>
   rw[bl (by decide),bl u,bl v,bl A,bl C] at f;exact f
theorem JA {f:bq Vr}{d:aq}{l:bq aq}(h:dX f (d::l)=0):(az f d).1=dT:=by
 have u:=iZ (by decide) h;rw[List.all_cons,ct] at u;simpa using u.1
theorem KH (f:aD m g i=0)(h:i.op=1\/i.op=3\/i.op=4\/i.op=5\/i.op=14):(az g.vs i.d).1=dT:=by
 rcases h with h|h|h|h|h
 ·have:=IZ f h (by decide) (by decide) (by decide) (by decide)
  unfold ay at this;rw[bx (.inl h)] at this;exact JA this
 ·have:=IZ f h (by decide) (by decide) (by decide) (by decide)
  unfold ay at this;rw[bl (by omega),bx h] at this;exact JA this
 ·have:=IZ f h (by decide) (by decide) (by decide) (by decide)
  unfold ay at this;rw[bl (by omega),bl (by omega),bx h] at this;unfold eO at this
  by_cases e:dX g.vs [i.d,i.a,i.b]≠0
  ·rw[bx e] at this;exact cm this e
  ·exact JA (b7 e)
 ·have:=IZ f h (by decide) (by decide) (by decide) (by decide)
  unfold ay at this;rw[bx (.inr h)] at this;exact JA this
 ·have:=IZ f h (by decide) (by decide) (by decide) (by decide)
  unfold ay at this;rw[bl (by omega),bl (by omega),bl (by omega),bl (by omega),bl (by omega),bl (by omega),bx h] at this;unfold eO at this
  by_cases e:bM (!(az g.vs i.d).1&&(az g.vs i.a).1) 7≠0
  ·rw[bx e] at this;exact cm this e
  ·have u:=iZ (by decide) (b7 e)
   rw[ct] at u;simpa using u.1
theorem J8 {z:bq Vr}{o:aq}{G:Bool}(h:bV m z i o G=0):(az z i.a).1=dS/\0<=i.f/\∃(s:St) (x:Fd),m.ss[(m.stIx (az z i.a).2).toNat]?=dy s/\s.fs[i.f.toNat]?=dy x/\x.ty=az z o/\x.ty.1=G:=by
 unfold bV at h
 by_cases C:(aI m z i.a i.f).2≠0
 ·rw[bx C] at h;exact cm h C
 ·rw[bl C] at h
  have u:(aI m z i.a i.f).2=0:=b7 C;have v:=iZ (by decide) h;rw[ct,beq_iff_eq,beq_iff_eq] at v;obtain⟨v,A⟩:=v;unfold aI at u v A
  by_cases D:(az z i.a).1=dT
  ·rw[bx D] at u;exact cm u (by simp)
  ·rw[bl D] at u v A
   cases I:m.ss[(m.stIx (az z i.a).2).toNat]? with
   |none=>rw[I] at u;exact cm u (by simp)
   |some s=>
    rw[I] at u v A;simp only at u v A
    by_cases J:i.f<0
    ·rw[bx J] at u;exact cm u (by simp)
    ·rw[bl J] at u v A
     cases E:s.fs[i.f.toNat]? with
     |none=>rw[E] at u;exact cm u (by simp)
     |some x=>
      rw[E] at v A;exact⟨by simpa using D,by omega,s,x,rfl,E,v,A⟩
def Jo (i:Ins):aq:=if i.op=7\/i.op=10 then i.d else i.b
def JI (i:Ins):Bool:=decide (i.op=10\/i.op=11)
theorem KI (u:aD m g i=0)(h:i.op=7\/i.op=8\/i.op=10\/i.op=11):bV m g.vs i (Jo i) (JI i)=0:=by
 have f:=IZ u rfl (by omega) (by omega) (by omega) (by omega);unfold ay at f;rw[bl (by omega),bl (by omega),bl (by omega),bl (by omega),bl (by omega),bl (by omega),bl (by omega),bl (by omega)] at f;unfold Jo JI
 by_cases c:i.op=7\/i.op=10
 ·rw[bx c] at f⊢
  rw[show decide (i.op=10\/i.op=11)=decide (i.op=10) by rcases c with c|c<;>simp[c]];exact f
 ·rw[bl c] at f⊢
  rw[bx (by omega)] at f;rw[show decide (i.op=10\/i.op=11)=decide (i.op=11) by rcases h with h|h|h|h<;>simp[h]<;>omega];exact f
theorem yC.heap (A:bf m=0)(h:yC m cs (pre++[r]))(C:m.fs[r.f]?=dy g)(Y:g.c.ins[r.pc]?=dy i)(G:i.op=7\/i.op=8\/i.op=10\/i.op=11){k:bo}{c:Cl}(I:r.v[i.a.toNat]?=dy ((k:aq)+1))(J:cs[k]?=dy c):
  ∃(y:bo) (s:St) (u:Fd),(aj m.xi)[y]?=dy c.st/\m.siteS y=dy s/\m.lf (av (r.f:aq) i.a) y/\0<=i.f/\s.fs[i.f.toNat]?=dy u/\c.fs.length=s.fs.length/\u.ty=az g.vs (Jo i)/\u.ty.1=JI i/\∀p,c.fs[i.f.toNat]?=dy p->JG m (cs.map Cl.st) u.ty (bN (y:aq) i.f) p:=by
 have L:=dw A C Y;obtain⟨_,_,q3,_,_⟩:=bK L;obtain⟨e1,N,s,u,O,P,e5,e6⟩:=J8 (KI L G);have Q:=q3 i.a (by unfold readsOf;rcases G with h|h|h|h<;>rw[h]<;>simp[oH]);obtain⟨j,p,ej,_,hp,hv⟩:=h.val C Q;rw[ej,am,hp] at I;obtain rfl:=ar I;obtain⟨q,y,T,D,V⟩:=(hv.2 e1).2.2 k rfl;rw[cd,J] at T;obtain rfl:=ar T;obtain⟨y',s',W,X,b3,b4⟩:=(h.cells c (ap J)).ex;have ep:=(ag.1 D).1;have eq:=(ag.1 W).1;have ey:y=y':=by
  have h1:=jy D (gy m);have h2:=jy W (gy m);omega
 subst ey;obtain⟨s2,E,c2⟩:=Aw A V;rw[E] at X;obtain rfl:=ar X;have en:=gZ (bH C Q) c2;rw[en] at O;obtain⟨z,hz⟩:=pJ E;obtain rfl:=mW A hz O;refine⟨y,s,u,D,E,V,N,P,b3,e5,e6,λx hx=> ?_⟩;have:=b4 i.f.toNat u x P hx;rw[bz N] at this;exact this
theorem Kn (C:bf m=0){j k:bo}(u:m.fs[j]?=dy g)(v:g.c.ins[k]?=dy i)(h:i.op=12):∃(x:bo) (s:St),(aj m.xi)[x]?=dy ((j:aq),(k:aq))/\m.siteS x=dy s/\m.ss[i.f.toNat]?=dy s/\0<=i.f/\m.lf (av j i.d) x:=by
 obtain⟨s,z,_,D⟩:=CB (dw C u v) h;have A:(aj m.xi)[(aj (m.upto j k g)).length]?=dy ((j:aq),(k:aq)):=by
  obtain⟨r,e⟩:=mI u v;rw[e];unfold aj;rw[cr,co,aE (bA _),bR];unfold iK;simp only[h];rfl
 refine⟨(aj (m.upto j k g)).length,s,A, ?_,z,D, ?_⟩
 ·unfold Mo.siteS
  rw[Av u v A,cH];exact z
 ·refine .base ?_
  obtain⟨r,e⟩:=mI u v;rw[e,kY,ch];refine List.mem_append_right _ ?_;unfold aN mi;simp only[h];simp
theorem JP {k:bo}{c c':Cl}(f:cs[k]?=dy c)(h:c'.st=c.st):(cs.set k c').map Cl.st=cs.map Cl.st:=by
 rw[List.map_set];refine dd λn=> ?_
 by_cases e:k=n
 ·subst e
  have u:=(ag.1 f).1;rw[be (by rw[dp];exact u),cd,f,h];rfl
 ·rw[bj e]
theorem yC.cell (h:yC m cs l){k:bo}{c c':Cl}(f:cs[k]?=dy c)(u:c'.st=c.st)(v:Km m (cs.map Cl.st) c'):yC m (cs.set k c') l:=by
 have e:=JP f u;refine⟨λx z=> ?_,λr A=>by rw[e];exact h.frames r A,h.chn⟩;rw[e];rcases List.mem_or_eq_of_mem_set z with q|q
 ·exact h.cells x q
 ·rw[q];exact v
theorem yC.free (h:yC m cs l){k:bo}{c:Cl}(f:cs[k]?=dy c):yC m (cs.set k {c with al:=dT}) l:=
 h.cell f rfl ⟨(h.cells c (ap f)).ex⟩
theorem yC.field (E:bf m=0)(h:yC m cs (pre++[r]))(A:m.fs[r.f]?=dy g)(G:g.c.ins[r.pc]?=dy i)(W:i.op=8\/i.op=11){k:bo}{c:Cl}(X:r.v[i.a.toNat]?=dy ((k:aq)+1))(I:cs[k]?=dy c){x:aq}(J:r.v[i.b.toNat]?=dy x):
  yC m (cs.set k {c with fs:=c.fs.set i.f.toNat x}) (pre++[r]):=by
 obtain⟨y,s,fd,L,N,Y,a4,O,a6,P,a8,a9⟩:=h.heap E A G (by omega) X I;have h0:=dw E A G;obtain⟨_,_,q3,_,_⟩:=bK h0;have en:=q3 i.b (by unfold readsOf;rcases W with h|h<;>rw[h]<;>simp[oH,rz]);obtain⟨j,p,ej,_,hp,Q⟩:=h.val A en;rw[ej,am,hp] at J;obtain rfl:=ar J;obtain⟨y',s',b1,T,V,b4⟩:=(h.cells c (ap I)).ex;have ey:y=y':=by
  have C:=jy L (gy m);have u:=jy b1 (gy m);omega
 subst ey;rw[N] at T;obtain rfl:=ar T;refine h.cell I rfl ⟨y,s,L,N,by simp[V],λn ep z C u=> ?_⟩
 by_cases e:i.f.toNat=n
 ·subst e
  rw[O] at C;obtain rfl:=ar C;simp only at u;rw[be (by rw[V];exact(ag.1 O).1)] at u;obtain rfl:=ar u;have eo:Jo i=i.b:=by unfold Jo;rw[bl (by omega)]
  rw[eo] at P;refine⟨Q.1,λD=> ?_⟩;have eq:i.op=11:=by
   rw[a8] at D;unfold JI at D;simp only[cW] at D;omega
  have:=(EW E A G eq).2.2.2;rw[bz a4];exact(Q.2 (by rw[<-P];exact D)).sub λz hz=>this y z Y hz
 ·simp only[bj e] at u
  exact b4 n ep z C u
theorem yC.new (u:bf m=0)(h:yC m cs (pre++[r]))(z:m.fs[r.f]?=dy g)(A:g.c.ins[r.pc]?=dy i)(C:i.op=12)(X:cs.length<=100000){s:St}(I:m.ss[i.f.toNat]?=dy s){pc b:bo}(J:pc<g.c.ins.length):
  yC m (cs++[⟨dS,bc s.fs.length 0,((r.f:aq),(r.pc:aq)),b⟩]) (pre++[⟨r.f,pc,r.v.set i.d.toNat ((cs.length:aq)+1),r.b⟩]):=by
 obtain⟨x,Y,D,L,E,_,N⟩:=Kn u z A C;rw[I] at E;obtain rfl:=ar E;obtain⟨_,_,_,O,_⟩:=bK (dw u z A);have P:=bU (O (by rw[C];rfl));have e:(cs++[(⟨dS,bc s.fs.length 0,((r.f:aq),(r.pc:aq)),b⟩:Cl)]).map Cl.st=cs.map Cl.st++[((r.f:aq),(r.pc:aq))]:=by simp
 have Q:yC m (cs++[⟨dS,bc s.fs.length 0,((r.f:aq),(r.pc:aq)),b⟩]) (pre++[r]):=by
  refine⟨λc T=> ?_,λr u=>by rw[e];exact(h.frames r u).app,h.chn⟩;rw[e];rcases cv.1 T with q|q
  ·exact(h.cells c q).app
  ·rw[bw.1 q]
   refine⟨x,s,D,L,by simp,λk fd p _ G=> ?_⟩;simp only at G;rw[cN (ap G)];exact JG.null
 have V:((i.d.toNat:bo):aq)=i.d:=bz P.1;refine Q.put z J ?_;rw[V,e];refine⟨by unfold fO;omega,λ_=>⟨by omega,by simp,λk hk=> ?_⟩⟩;have W:k=cs.length:=by omega
 subst W;exact⟨((r.f:aq),(r.pc:aq)),x,by rw[aE (by simp)];simp,D,N⟩
theorem yC.pop {x:Fr}(h:yC m cs (l++[x])):yC m cs l:=
 ⟨h.cells,λr u=>h.frames r (List.mem_append_left _ u),λk a b v f=>by
  have z:=(ag.1 f).1;exact h.chn k a b (by rw[ax (by omega)];exact v) (by rw[ax z];exact f)⟩
theorem yC.push {x:Fr}(h:yC m cs (pre++[r]))(z:KX m r x)(A:J7 m (cs.map Cl.st) x):yC m cs ((pre++[r])++[x]):=by
 refine⟨h.cells,λy C=> ?_,λk a b u f=> ?_⟩
 ·rcases cv.1 C with q|q
  ·exact h.frames y q
  ·rw[bw.1 q];exact A
 ·have D:=(ag.1 f).1
  rw[ca,cb] at D
  by_cases e:k+1<(pre++[r]).length
  ·rw[ax e] at f
   rw[ax (by omega)] at u;exact h.chn k a b u f
  ·have v:k+1=(pre++[r]).length:=by omega
   rw[v,aE (bA _),bR] at f;obtain rfl:=ar f;have E:k=pre.length:=by rw[ca,cb] at v;omega
   rw[ax (by omega),E,aE (bA _),bR] at u;obtain rfl:=ar u;exact z
def JQ (n:bo)(args:bq aq):bq aq:=args++bc (n-args.length) 0
theorem Ko {n:bo}{args:bq aq}(h:args.length<=n):(JQ n args).length=n:=by unfold JQ;simp;omega
theorem yC.start (u:bf m=0)(b:bo):yC m [] [⟨(m.fnIx dG).toNat,0,bc (match m.fs[(m.fnIx dG).toNat]? with|some g=>g.vs.length|none=>0) 0,b⟩]:=by
 refine⟨λc v=>(by cases v),λx C=> ?_,λk a b _ f=>(by simp at f)⟩;rw[bw.1 C];obtain⟨g,h⟩:∃g,m.fs[(m.fnIx dG).toNat]?=dy g:=by
  have z:=(dJ u).2.2.2.2.2;refine⟨_,ac ?_⟩;unfold Mo.fnIx fT at z⊢
  split at z
  ·rename_i f
   rw[bx f,am];exact f
  ·omega
 have v:=jm ((dJ u).2.2.2.2.1 g (ap h));refine⟨g,h,by show 0<_;omega,by simp[h],λj D p _ A=> ?_⟩;simp only at A;rw[cN (ap A)];exact JG.null
theorem yC.call (C:bf m=0)(h:yC m cs (pre++[r]))(A:m.fs[r.f]?=dy g)(D:g.c.ins[r.pc]?=dy i)(E:i.op=15){g2:Fn}(I:m.fs[i.f.toNat]?=dy g2){args:bq aq}(hl:args.length=i.args.length)(Q:∀(n:bo)(x:aq),i.args[n]?=dy x->r.v[x.toNat]?=args[n]?)(b:bo):
  yC m cs ((pre++[⟨r.f,r.pc+1,r.v,r.b⟩])++[⟨i.f.toNat,0,JQ g2.vs.length args,b⟩]):=by
 have T:=dw C A D;obtain⟨_,_,V,q4,W⟩:=bK T;obtain⟨X,g',L,c3,c4,Y,c6⟩:=nW (W E);rw[I] at L;obtain rfl:=ar L;have N:((i.f.toNat:bo):aq)=i.f:=bz X;have en:args.length<=g2.vs.length:=by omega
 refine(h.go A (JH C A D (by omega))).push ⟨g,r.pc,i,A,rfl,D,E,N.symm⟩ ⟨g2,I, ?_,Ko en,λj vr p hj u=> ?_⟩
 ·have:=(jm ((dJ C).2.2.2.2.1 g2 (ap I))).2.1
  show 0<_
  omega
 ·simp only[JQ] at u
  by_cases e:j<args.length
  ·rw[ax e] at u
   obtain⟨x,G⟩:∃x,i.args[j]?=dy x:=⟨_,ac (by omega)⟩
   have ep:=V x (by unfold readsOf;rw[bx E];simp[ap G]);obtain⟨k,z,ek,_,hz,J⟩:=h.val A ep;have O:=Q j x G;rw[ek,am,hz,u] at O;obtain rfl:=ar O;have P:=CE Y G;rw[ch,Jn hj] at P;rw[P] at J;refine⟨J.1,λu=> ?_⟩;rw[N];exact(J.2 u).sub ((wT C A D E).2.2.2 j x G).2
  ·rw[aE (by omega)] at u
   rw[cN (ap u)];exact JG.null
theorem yC.ret {c:Fr}(z:bf m=0)(h:yC m cs ((pre++[c])++[r]))(A:m.fs[r.f]?=dy g)(D:g.c.ins[r.pc]?=dy i)(E:i.op=18){p:aq}(J:r.v[i.a.toNat]?=dy p):
  ∃(gc:Fn) (q:bo) (u:Ins),m.fs[c.f]?=dy gc/\c.pc=q+1/\gc.c.ins[q]?=dy u/\isVar gc.vs.length u.d=dS/\yC m cs (pre++[⟨c.f,c.pc,c.v.set u.d.toNat p,c.b⟩]):=by
 obtain⟨gc,q,u,C,T,G,I,L⟩:=h.chn pre.length c r (by rw[List.append_assoc,aE (bA _),bR];rfl) (by rw[aE (by simp)];simp);have V:=dw z C G;obtain⟨_,_,_,W,X⟩:=bK V;obtain⟨c1,g',N,c3,c4,c5,Y⟩:=nW (X I);rw[L,am,A] at N;obtain rfl:=ar N;have O:=W (by rw[I];rfl);have hd:((u.d.toNat:bo):aq)=u.d:=bz (bU O).1;obtain⟨_,_,q3,_,_⟩:=bK (dw z A D);obtain⟨j,x,ej,_,hx,P⟩:=h.val A (q3 i.a (by unfold readsOf;rw[E];simp[oH]));rw[ej,am,hx] at J;obtain rfl:=ar J;obtain⟨ep,Q,en,_⟩:=h.pop.frame;rw[C] at Q;obtain rfl:=ar Q;refine⟨gc,q,u,C,T,G,O,h.pop.put C en ?_⟩;rw[hd,Y,<-Gc (dw z A D) E];refine⟨P.1,λht=>((P.2 ht).sub (EX z A D E).2).sub λy hy=> ?_⟩;have:=(wT z C G I).2.2.1 y;rw[L] at this;exact this hy
inductive Pl (m:Mo) (i:Ins) (cs:bq Cl) (v:bq aq):bq aq->bq Cl->Prop
 |none:Pl m i cs v v cs
 |num {x:aq}:fO x->(i.op=1\/i.op=3\/i.op=4\/i.op=5\/i.op=14)->Pl m i cs v (v.set i.d.toNat x) cs
 |null:i.op=2\/i.op=12->Pl m i cs v (v.set i.d.toNat 0) cs
 |give {x:aq}:i.op=9->v[i.a.toNat]?=dy x->Pl m i cs v (v.set i.d.toNat x) cs
 |get {k:bo} {c:Cl} {x:aq}:i.op=7\/i.op=10->v[i.a.toNat]?=dy ((k:aq)+1)->cs[k]?=dy c->c.fs[i.f.toNat]?=dy x->Pl m i cs v (v.set i.d.toNat x) cs
 |put {k:bo} {c:Cl} {x:aq}:i.op=8\/i.op=11->v[i.a.toNat]?=dy ((k:aq)+1)->cs[k]?=dy c->v[i.b.toNat]?=dy x->Pl m i cs v v (cs.set k {c with fs:=c.fs.set i.f.toNat x})
 |new {st:St} {bk:bo}:i.op=12->m.ss[i.f.toNat]?=dy st->Pl m i cs v (v.set i.d.toNat ((cs.length:aq)+1)) (cs++[⟨dS,bc st.fs.length 0,(0,0),bk⟩])
 |free {k:bo} {c:Cl}:i.op=13->cs[k]?=dy c->Pl m i cs v v (cs.set k {c with al:=dT})
theorem Pl.inv {v':bq aq}{cs':bq Cl}(N:Pl m i cs r.v v' cs')(E:bf m=0)(h:yC m cs (pre++[r]))(A:m.fs[r.f]?=dy g)(G:g.c.ins[r.pc]?=dy i)(ep:i.op<15)(V:cs.length<=100000):
  (cs'.length=cs.length/\yC m cs' (pre++[⟨r.f,r.pc+1,v',r.b⟩]))\/
  ∃(c:Cl),c.st=(0,0)/\cs'=cs++[c]/\yC m (cs++[{c with st:=((r.f:aq),(r.pc:aq))}]) (pre++[⟨r.f,r.pc+1,v',r.b⟩]):=by
 have C:=JH E A G (by omega);have O:=dw E A G;obtain⟨_,_,W,X,_⟩:=bK O;have P:nZ i.op=dS->((i.d.toNat:bo):aq)=i.d:=λe=>bz (bU (X e)).1;cases N with
 |none=>exact .inl ⟨rfl,h.go A C⟩
 |num D u=>
  refine .inl ⟨rfl,h.put A C ?_⟩;rw[P (by rcases u with e|e|e|e|e<;>rw[e]<;>rfl)];exact JG.num D (KH O u)
 |null u=>
  exact .inl ⟨rfl,h.put A C JG.null⟩
 |give u D=>
  obtain⟨j,p,Y,_,N,J⟩:=h.val A (W i.a (by unfold readsOf;rw[u];simp[oH]));rw[Y,am,N] at D;obtain rfl:=ar D;refine .inl ⟨rfl,h.put A C ?_⟩;rw[P (by rw[u];rfl),<-E5 O u];exact⟨J.1,λI=>(J.2 I).sub (DF E A G u).2.2⟩
 |get u Q L D=>
  obtain⟨y,st,fd,a1,a2,a3,a4,a5,a6,T,a8,a9⟩:=h.heap E A G (by omega) Q L;have J:=a9 _ D;have eo:Jo i=i.d:=by unfold Jo;rw[bx u]
  rw[eo] at T;refine .inl ⟨rfl,h.put A C ?_⟩;rw[P (by rcases u with e|e<;>rw[e]<;>rfl),<-T];refine⟨J.1,λI=> ?_⟩;have en:i.op=10:=by
   rw[a8] at I;unfold JI at I;simp only[cW] at I;omega
  exact(J.2 I).sub λz hz=>(DI E A G en).2.2.2 y z a3 hz
 |put u Q L D=>exact .inl ⟨by simp,(h.field E A G u Q L D).go A C⟩
 |new u hs=>exact .inr ⟨_,rfl,rfl,h.new E A G u V hs C⟩
 |free u L=>exact .inl ⟨by simp,(h.free L).go A C⟩
end
inductive WT|no|run|hp|st|ce|se|ou|fl (k:bo)|fr (d:bo)
def JB (l:bq aq):Array cy:=(l.map (dg .i64)).toArray
def VB (w:World)(b:bo)(v:bq aq):Prop:=w.heap[b]?=dy (el (JB v) 2 (0,0))
def JR (c:Cl):bq cy:=[eh c.al,ee (dy ⟨c.b,0,dD⟩) c.fs.length c.fs.length,Z U c.st.1,Z U c.st.2]
def JS (r:Fr):bq cy:=[Z U (r.f:aq),Z U (r.pc:aq),ee (dy ⟨r.b,0,dD⟩) r.v.length r.v.length]
structure Sn where
 f:aq
 v:aq
 st:aq×aq
def KR (x:Sn):bq cy:=[Z U x.f,Z U x.v,Z U x.st.1,Z U x.st.2]
def I4 (B:bo)(w:World)(v:cy):Prop:=∃f n cap,v= ee f n cap/\n<=100000/\n<=cap/\(n≠0->∃b o,f=dy ⟨b,o,dD⟩/\b<B/\b<w.heap.size/\∀j,j<n->∃x,0<=x/\x<256/\w.cell? ⟨b,o+j,dD⟩=dy (.int .u8 x))
def Jb (B:bo)(w:World)(v:cy):Prop:=∃f n cap,v= ee f n cap/\n<=100000/\(n≠0->∃b o,f=dy ⟨b,o,dD⟩/\b<B/\b<w.heap.size/\∀j,j<n->∃x,w.cell? ⟨b,o+j,dD⟩=dy (eh x))
structure IY where
 stA:cL Addr
 stK:bo
 ceA:cL Addr
 ceK:bo
 seA:cL Addr
 seK:bo
 ouA:cL Addr
 ouK:bo
 no:bo
 inn:cy
 fail:cy
 asked:aq
 kind:aq
 code:aq
 steps:aq
def JU (m:Mo)(H:bo)(s:IY)(f h:bo):Array cy:=
 #[ee m.sA m.ss.length m.sC,ee m.fA m.fs.length m.fC,eg (dy ⟨H,0,dD⟩),ee s.stA f s.stK,Z U s.kind,Z U s.code,ee dD 0 0,Z U s.steps,Z U 0,ee s.seA h s.seK]
def KG (s:IY)(f:bo):Array cy:=#[ee s.ceA f s.ceK,Z U s.asked,s.fail,s.inn,ee s.ouA s.no s.ouK]
def yA (a:cL Addr):cL bo:=(ee a 0 0).ownBlock
theorem aa (a:cL Addr)(n c:bo):(ee a n c).ownBlock=yA a:=by cases a<;>rfl
structure KY (Zx:WT->Prop)(R H:bo)(m:Mo)(B:bo)(tg:bo->WT)(s:IY)(cs:bq Cl)(stk:bq Fr)(bd:bq Sn)(w:World):Prop where
 run:¬Zx .run->w.heap[R]?=dy (el (JU m H s stk.length bd.length) 159 (0,0))
 hp:¬Zx .hp->w.heap[H]?=dy (el (KG s cs.length) 154 (0,0))
 st:¬Zx .st->w.ownsRow B 218 3 (ee s.stA stk.length s.stK) stk.length (stk.flatMap JS)
 ce:¬Zx .ce->w.ownsRow B 87 4 (ee s.ceA cs.length s.ceK) cs.length (cs.flatMap JR)
 se:¬Zx .se->w.ownsRow B 83 4 (ee s.seA bd.length s.seK) bd.length (bd.flatMap KR)
 ou:¬Zx .ou->∃l,w.ownsRow B 5 1 (ee s.ouA s.no s.ouK) s.no l
 fr:∀(d:bo)(r:Fr),stk[d]?=dy r->¬Zx (.fr d)->VB w r.b r.v
 fl:∀(k:bo)(c:Cl),cs[k]?=dy c->¬Zx (.fl k)->VB w c.b c.fs
 inn:I4 B w s.inn
 fail:Jb B w s.fail
structure Wm (R H:bo)(m:Mo)(B:bo)(tg:bo->WT)(s:IY)(cs:bq Cl)(stk:bq Fr)(bd:bq Sn)(w:World):Prop where
 x:KY (λ_=>False) R H m B tg s cs stk bd w
 tr:∀(d:bo)(r:Fr),stk[d]?=dy r->tg r.b= .fr d
 tl:∀(k:bo)(c:Cl),cs[k]?=dy c->tg c.b= .fl k
 t1:tg R= .run
 t2:tg H= .hp
 t3:∀k,yA s.stA=dy k->tg k= .st
 t4:∀k,yA s.ceA=dy k->tg k= .ce
 t5:∀k,yA s.seA=dy k->tg k= .se
 t6:∀k,yA s.ouA=dy k->tg k= .ou
 lo:∀k,tg k≠ .no->B<=k/\k<w.heap.size
def Bb (R H:bo)(m:Mo)(B:bo)(tg:bo->WT)(w:World)(cs:bq Cl)(stk:bq Fr)(bd:bq Sn)(P:IY->Prop)(w':World):Prop:=
 ∃f h,Wm R H m B f h cs stk bd w'/\P h/\Ext (λk=>tg k≠ .no) w w'/\∀k,f k≠ .no->tg k≠ .no\/w.heap.size<=k
section
variable {R H:bo}{m:Mo}{B:bo}{tg:bo->WT}{s:IY}{cs:bq Cl}{stk:bq Fr}{bd:bq Sn}{w w':World}{M:bo->Prop}{Zx:WT->Prop}
theorem I4.ext {v:cy}(h:I4 B w v)(f:Ext M w w')(z:∀k,M k->B<=k):I4 B w' v:=by
 obtain⟨A,n,cap,e,C,D,E⟩:=h;refine⟨A,n,cap,e,C,D,λG=> ?_⟩;obtain⟨b,o,I,J,u,L⟩:=E G;refine⟨b,o,I,J,bh u f.size,λj N=> ?_⟩;obtain⟨x,O,P,Q⟩:=L j N;exact⟨x,O,P,by rw[f.cell (a:=⟨b,o+j,dD⟩) u (λq=>by have:=z _ q;simp only at this;omega)];exact Q⟩
theorem Jb.ext {v:cy}(h:Jb B w v)(f:Ext M w w')(z:∀k,M k->B<=k):Jb B w' v:=by
 obtain⟨A,n,cap,e,C,D⟩:=h;refine⟨A,n,cap,e,C,λE=> ?_⟩;obtain⟨b,o,G,I,u,J⟩:=D E;refine⟨b,o,G,I,bh u f.size,λj L=> ?_⟩;obtain⟨x,N⟩:=J j L;exact⟨x,by rw[f.cell (a:=⟨b,o+j,dD⟩) u (λq=>by have:=z _ q;simp only at this;omega)];exact N⟩
theorem Wm.keep (h:Wm R H m B tg s cs stk bd w)(u:Ext M w w')(z:∀k,M k->Zx (tg k)/\tg k≠ .no):KY Zx R H m B tg s cs stk bd w':=by
 have A:∀k,M k->B<=k:=λk f=>(h.lo k (z k f).2).1;have v:∀{k:bo}{a:WT},tg k=a->¬Zx a->¬M k:=λE G f=>G (by rw[<-E];exact(z _ f).1);refine⟨λq=>u.heap (h.x.run (by simp)) (v h.t1 q),λq=>u.heap (h.x.hp (by simp)) (v h.t2 q),λq=>af (h.x.st (by simp)) u λk f=>v (h.t3 k (by rw[<-f,aa])) q,
  λq=>af (h.x.ce (by simp)) u λk f=>v (h.t4 k (by rw[<-f,aa])) q,λq=>af (h.x.se (by simp)) u λk f=>v (h.t5 k (by rw[<-f,aa])) q,
  λq=> ?_,λd r C q=>u.heap (h.x.fr d r C (by simp)) (v (h.tr d r C) q),λk c D q=>u.heap (h.x.fl k c D (by simp)) (v (h.tl k c D) q),h.x.inn.ext u A,h.x.fail.ext u A⟩
 obtain⟨l,I⟩:=h.x.ou (by simp);exact⟨l,af I u λk f=>v (h.t6 k (by rw[<-f,aa])) q⟩
theorem Wm.grow (h:Wm R H m B tg s cs stk bd w)(v:bt w.heap.size w w'):Wm R H m B tg s cs stk bd w':=by
 have f:Ext (λ_=>False) w w':=Ext.of_below_size v;have z:=h.keep (Zx:=λ_=>False) f (λ_ q=>q.elim);exact⟨z,h.tr,h.tl,h.t1,h.t2,h.t3,h.t4,h.t5,h.t6,λk u=>⟨(h.lo k u).1,bh (h.lo k u).2 f.size⟩⟩
theorem Wm.refl (h:Wm R H m B tg s cs stk bd w):Bb R H m B tg w cs stk bd (·=s) w:=⟨tg,s,h,rfl,Ext.refl _ _,λ_ f=> .inl f⟩
theorem Bb.step {f:bo->WT}{w1:World}{P:IY->Prop}(h:Ext (λk=>tg k≠ .no) w w1)(u:∀k,f k≠ .no->tg k≠ .no\/w.heap.size<=k)(v:Bb R H m B f w1 cs stk bd P w'):Bb R H m B tg w cs stk bd P w':=by
 obtain⟨z,A,a,b,c,d⟩:=v;refine⟨z,A,a,b,h.trans c u,λk C=> ?_⟩;rcases d k C with q|q
 ·exact u k q
 ·exact .inr (ci h.size q)
theorem Bb.imp {P Q:IY->Prop}(h:Bb R H m B tg w cs stk bd P w')(f:∀s,P s->Q s):Bb R H m B tg w cs stk bd Q w':=by
 obtain⟨u,v,a,b,c⟩:=h;exact⟨u,v,a,f _ b,c⟩
theorem Wm.lo2 (h:Wm R H m B tg s cs stk bd w)(u:Ext M w w'):∀k,tg k≠ .no->B<=k/\k<w'.heap.size:=λk f=>⟨(h.lo k f).1,bh (h.lo k f).2 u.size⟩
theorem I7 {α:Type}{f:α->bq cy}{c:bo}(z:∀a,(f a).length=c):∀(l:bq α)(k:bo)(a v:α)(j:bo)(u:cy),l[k]?=dy a->f v=(f a).set j u->j<c->(l.flatMap f).set (k*c+j) u=(l.set k v).flatMap f
 |[],k,a,v,j,u,h,_,_=>by simp at h
 |x::l,0,a,v,j,u,h,e,A=>by
  obtain rfl:x=a:=by simpa using h
  rw[cF,co,co,e,Nat.zero_mul,ch,List.set_append_left _ _ (by rw[z];exact A)]
 |x::l,k+1,a,v,j,u,h,e,A=>by
  rw[List.set_cons_succ,co,co,cw _ _ (by rw[z,Nat.succ_mul];omega),z,<-I7 z l k a v j u (by simpa using h) e A];congr 2;rw[Nat.succ_mul];omega
theorem Kq {l:bq aq}(k:bo)(x:aq):(JB l).setIfInBounds k (Z U x)=JB (l.set k x):=by
 unfold JB;rw[List.map_set];simp
theorem Kr {l:bq aq}{k:bo}{x:aq}(h:l[k]?=dy x):(JB l)[k]?=dy (Z U x):=by
 unfold JB;simp[h]
theorem VB.cell {b k:bo}{l:bq aq}{x:aq}(h:VB w b l)(f:l[k]?=dy x):w.cell? ⟨b,k,dD⟩=dy (Z U x):=zR h k _ (Kr f)
theorem VB.set {b:bo}{l:bq aq}(h:VB w b l)(k:bo)(x:aq):VB (w.setCell ⟨b,k,dD⟩ (Z U x)) b (l.set k x):=by
 unfold VB;rw[b5 w b k _ _ _ h,Kq]
theorem Wm.var (h:Wm R H m B tg s cs stk bd w){d:bo}{r:Fr}(z:stk[d]?=dy r)(j:bo)(x:aq):
  Bb R H m B tg w cs (stk.set d {r with v:=r.v.set j x}) bd (·=s) (w.setCell ⟨r.b,j,dD⟩ (Z U x)):=by
 have A:Ext (·=r.b) w (w.setCell ⟨r.b,j,dD⟩ (Z U x)):=Ext.set1 _ _ _ _;have C:=h.tr d r z;have f:=h.keep (Zx:=(·= .fr d)) A (λk e=>by rw[e,C];simp);have D:=(ag.1 z).1;have E:(stk.set d {r with v:=r.v.set j x}).flatMap JS=stk.flatMap JS:=by
  refine congrArg List.flatten (?_:List.map JS _=List.map JS _);refine dd λn=> ?_;rw[cd,cd]
  by_cases e:d=n
  ·subst e
   rw[be D,z];simp[JS]
  ·rw[bj e]
 refine⟨tg,s,⟨⟨λ_=>by rw[ck];exact f.run (by simp),λ_=>f.hp (by simp),λ_=>by rw[ck,E];exact f.st (by simp),λ_=>f.ce (by simp),λ_=>f.se (by simp),λ_=>f.ou (by simp),λn q u _=> ?_,λk c G _=>f.fl k c G (by simp),f.inn,f.fail⟩,λn q u=> ?_,h.tl,h.t1,h.t2,h.t3,h.t4,h.t5,h.t6,h.lo2 A⟩,rfl,A.mono (λk e=>by rw[e,C];simp),λk I=> .inl I⟩
 ·by_cases e:d=n
  ·subst e
   rw[be D] at u;obtain rfl:=ar u;exact(h.x.fr d r z (by simp)).set j x
  ·rw[bj e] at u
   exact f.fr n q u (by simp;exact λq=>e q.symm)
 ·by_cases e:d=n
  ·subst e
   rw[be D] at u;obtain rfl:=ar u;exact C
  ·rw[bj e] at u
   exact h.tr n q u
theorem Wm.fld (h:Wm R H m B tg s cs stk bd w){d:bo}{c:Cl}(v:cs[d]?=dy c)(j:bo)(x:aq):
  Bb R H m B tg w (cs.set d {c with fs:=c.fs.set j x}) stk bd (·=s) (w.setCell ⟨c.b,j,dD⟩ (Z U x)):=by
 have z:Ext (·=c.b) w (w.setCell ⟨c.b,j,dD⟩ (Z U x)):=Ext.set1 _ _ _ _;have A:=h.tl d c v;have u:=h.keep (Zx:=(·= .fl d)) z (λk e=>by rw[e,A];simp);have C:=(ag.1 v).1;have D:(cs.set d {c with fs:=c.fs.set j x}).flatMap JR=cs.flatMap JR:=by
  refine congrArg List.flatten (?_:List.map JR _=List.map JR _);refine dd λn=> ?_;rw[cd,cd]
  by_cases e:d=n
  ·subst e
   rw[be C,v];simp[JR]
  ·rw[bj e]
 refine⟨tg,s,⟨⟨λ_=>u.run (by simp),λ_=>by rw[ck];exact u.hp (by simp),λ_=>u.st (by simp),λ_=>by rw[ck,D];exact u.ce (by simp),λ_=>u.se (by simp),λ_=>u.ou (by simp),λn q f _=>u.fr n q f (by simp),λn q f _=> ?_,u.inn,u.fail⟩,h.tr,λn q f=> ?_,h.t1,h.t2,h.t3,h.t4,h.t5,h.t6,h.lo2 z⟩,rfl,z.mono (λk e=>by rw[e,A];simp),λk E=> .inl E⟩
 ·by_cases e:d=n
  ·subst e
   rw[be C] at f;obtain rfl:=ar f;exact(h.x.fl d c v (by simp)).set j x
  ·rw[bj e] at f
   exact u.fl n q f (by simp;exact λq=>e q.symm)
 ·by_cases e:d=n
  ·subst e
   rw[be C] at f;obtain rfl:=ar f;exact A
  ·rw[bj e] at f
   exact h.tl n q f
theorem Wm.nums (h:Wm R H m B tg s cs stk bd w){j:bo}{u:cy}(v:IY)(C:v={s with kind:=v.kind,code:=v.code,steps:=v.steps})(E:(JU m H s stk.length bd.length).setIfInBounds j u=JU m H v stk.length bd.length):
  Bb R H m B tg w cs stk bd (·=v) (w.setCell ⟨R,j,dD⟩ u):=by
 have z:Ext (·=R) w (w.setCell ⟨R,j,dD⟩ u):=Ext.set1 _ _ _ _;have f:=h.keep (Zx:=(·= .run)) z (λk e=>by rw[e,h.t1];simp);have D:=b5 w R j _ _ u (h.x.run (by simp));rw[E] at D;obtain⟨stA,stK,ceA,ceK,I,seK,J,ouK,no,inn,fail,L,kind,code,steps⟩:=s;obtain⟨N,O,P,Q,T,V,W,X,Y,en,ep,eq,er,es,et⟩:=v;simp only[IY.mk.injEq,and_true] at C;obtain⟨rfl,rfl,rfl,rfl,rfl,rfl,rfl,rfl,rfl,rfl,rfl,rfl⟩:=C;exact⟨tg,_,⟨⟨λ_=>D,λ_=>f.hp (by simp),λ_=>f.st (by simp),λ_=>f.ce (by simp),λ_=>f.se (by simp),λ_=>f.ou (by simp),λn q A _=>f.fr n q A (by simp),λn q A _=>f.fl n q A (by simp),f.inn,f.fail⟩,h.tr,h.tl,h.t1,h.t2,h.t3,h.t4,h.t5,h.t6,h.lo2 z⟩,rfl,z.mono (λk e=>by rw[e,h.t1];simp),λk G=> .inl G⟩
theorem Wm.asks (h:Wm R H m B tg s cs stk bd w){j:bo}{u:cy}(f:IY)(C:f={s with asked:=f.asked,inn:=f.inn})(E:I4 B w f.inn)(G:(KG s cs.length).setIfInBounds j u=KG f cs.length):
  Bb R H m B tg w cs stk bd (·=f) (w.setCell ⟨H,j,dD⟩ u):=by
 have z:Ext (·=H) w (w.setCell ⟨H,j,dD⟩ u):=Ext.set1 _ _ _ _;have v:=h.keep (Zx:=(·= .hp)) z (λk e=>by rw[e,h.t2];simp);have D:=b5 w H j _ _ u (h.x.hp (by simp));rw[G] at D;have I:I4 B (w.setCell ⟨H,j,dD⟩ u) f.inn:=E.ext z (λk e=>by rw[e];exact(h.lo H (by rw[h.t2];simp)).1);obtain⟨stA,stK,ceA,ceK,es,seK,et,ouK,no,inn,fail,asked,ev,code,steps⟩:=s;obtain⟨J,L,N,O,P,Q,T,V,W,X,Y,en,ep,eq,er⟩:=f;simp only[IY.mk.injEq,true_and] at C;obtain⟨rfl,rfl,rfl,rfl,rfl,rfl,rfl,rfl,rfl,rfl,rfl,rfl,rfl⟩:=C;exact⟨tg,⟨J,L,N,O,P,Q,T,V,W,X,Y,en,ep,eq,er⟩,⟨⟨λ_=>v.run (by simp),λ_=>D,λ_=>v.st (by simp),λ_=>v.ce (by simp),λ_=>v.se (by simp),λ_=>v.ou (by simp),λn q A _=>v.fr n q A (by simp),λn q A _=>v.fl n q A (by simp),I,v.fail⟩,h.tr,h.tl,h.t1,h.t2,h.t3,h.t4,h.t5,h.t6,h.lo2 z⟩,rfl,z.mono (λk e=>by rw[e,h.t2];simp),λk hk=> .inl hk⟩
theorem J3 {f A:cL Addr}{w1:World}{a:WT}(h:Wm R H m B tg s cs stk bd w)(u:bt w.heap.size w w1)(v:∀k,yA A=dy k->tg k=a)(z:∀k,yA f=dy k->yA A=dy k\/w1.heap.size<=k)(b:bo)(D:w.heap.size<=b)(c:WT):
  ∀k,tg k≠ .no->(if yA f=dy k then a else if k=b then c else tg k)=tg k:=λk C=>by
 have:=(h.lo k C).2
 split
 ·rename_i e
  rcases z k e with q|q
  ·exact(v k q).symm
  ·have:=u.size;omega
 ·rw[bl (by omega)]
theorem Wm.pushF (h:Wm R H m B tg s cs stk bd w){w1 w9:World}{f b C:bo}{v:bq aq}{z:cL Addr}(I:bt w.heap.size w w1)(Q:VB w1 b v)(T:w.heap.size<=b)(V:Ext (λk=>yA s.stA=dy k) w1 w9)
  (h9:w9.ownsRow B 218 3 (ee z (stk.length+1) C) (stk.length+1) (stk.flatMap JS++JS ⟨f,0,v,b⟩))(N:∀k,yA z=dy k->yA s.stA=dy k\/w1.heap.size<=k)(es:¬yA z=dy b):
  Bb R H m B tg w cs (stk++[⟨f,0,v,b⟩]) bd (·={s with stA:=z,stK:=C}) (w9.setCell ⟨R,3,dD⟩ (ee z (stk.length+1) C)):=by
 have ew:=I.size;have ez:=ae Q;have O:=h.grow I;have P:Ext (·=R) w9 (w9.setCell ⟨R,3,dD⟩ (ee z (stk.length+1) C)):=Ext.set1 _ _ _ _;obtain⟨W,X⟩:=zE (w9.setCell ⟨R,3,dD⟩ (ee z (stk.length+1) C));rw[X] at P⊢;have J:Ext (λk=>yA s.stA=dy k\/k=R) w1 W:=(V.mono (λk q=> .inl q)).trans P (λk e=> .inl (.inr e));have E:∀k,(yA s.stA=dy k\/k=R)->(tg k= .st\/tg k= .run)/\tg k≠ .no:=λk e=>by
  rcases e with e|e
  ·rw[h.t3 k e];simp
  ·rw[e,h.t1];simp
 have A:=O.keep (Zx:=λt=>t= .st\/t= .run) J E;have et:=V.heap (O.x.run (by simp)) (λe=>by have:=h.t3 R e;rw[h.t1] at this;simp at this);have Y:=b5 w9 R 3 _ _ (ee z (stk.length+1) C) et;rw[X] at Y;have ev:¬yA z=dy R:=λe=>by
  rcases N R e with q|q
  ·have:=h.t3 R q;rw[h.t1] at this;simp at this
  ·have:=(h.lo R (by rw[h.t1];simp)).2;omega
 have en:=af h9 P (λk E e=>by rw[aa,e] at E;exact ev E);have D:=J3 h I h.t3 N b T (.fr stk.length);have ep:(stk++[(⟨f,0,v,b⟩:Fr)]).length=stk.length+1:=by simp
 have eq:VB W b v:=J.heap Q (λe=>by
  have u:tg b≠ .no:=(E b e).2;have:=(h.lo b u).2;omega)
 refine⟨λk=>if yA z=dy k then .st else if k=b then .fr stk.length else tg k,{s with stA:=z,stK:=C},⟨⟨λ_=>by rw[ep];exact Y,λ_=>A.hp (by simp),λ_=>by rw[ep,cr,cX];exact en,λ_=>A.ce (by simp),λ_=>A.se (by simp),λ_=>A.ou (by simp),λn q u _=> ?_,λn q u _=>A.fl n q u (by simp),A.inn,A.fail⟩,λn q u=> ?_,λn q u=>(D _ (by rw[h.tl n q u];simp)).trans (h.tl n q u),(D R (by rw[h.t1];simp)).trans h.t1,(D H (by rw[h.t2];simp)).trans h.t2,λk e=>bx e,λk e=>(D k (by rw[h.t4 k e];simp)).trans (h.t4 k e),λk e=>(D k (by rw[h.t5 k e];simp)).trans (h.t5 k e),λk e=>(D k (by rw[h.t6 k e];simp)).trans (h.t6 k e),λk e=> ?_⟩,rfl, ?_,λk e=> ?_⟩
 ·by_cases c:n<stk.length
  ·rw[ax c] at u
   exact A.fr n q u (by simp)
  ·rw[aE (by omega)] at u
   obtain⟨_,e⟩:=ag.1 u;rw[cD] at e;rw[<-e];exact eq
 ·by_cases c:n<stk.length
  ·rw[ax c] at u
   exact(D _ (by rw[h.tr n q u];simp)).trans (h.tr n q u)
  ·rw[aE (by omega)] at u
   obtain⟨hl,e⟩:=ag.1 u;rw[cD] at e;rw[cb] at hl;rw[<-e]
   show(if yA z=dy b then _ else _)=_
   rw[bl es,bx rfl,show n=stk.length by omega]
 ·by_cases G:yA z=dy k
  ·exact en.lt k (by rw[aa];exact G)
  ·by_cases L:k=b
   ·rw[L];exact⟨ci (h.lo R (by rw[h.t1];simp)).1 (ci (Nat.le_of_lt (h.lo R (by rw[h.t1];simp)).2) T),ae eq⟩
   ·have er:tg k≠ .no:=λa=>e (by simp only[bl G,bl L];exact a)
    exact⟨(h.lo k er).1,bh (O.lo k er).2 J.size⟩
 ·exact(Ext.of_below_size (M:=λ_=>False) I |>.mono (λ_ q=>q.elim)).trans J (λk q=> .inl (E k q).2)
 ·by_cases G:yA z=dy k
  ·rcases N k G with q|q
   ·exact .inl (by rw[h.t3 k q];simp)
   ·exact .inr (by omega)
  ·by_cases L:k=b
   ·exact .inr (by omega)
   ·exact .inl (λa=>e (by simp only[bl G,bl L];exact a))
theorem Wm.pushC (h:Wm R H m B tg s cs stk bd w){w1 w9:World}{b A:bo}{v:bq aq}{u:cL Addr}(G:bt w.heap.size w w1)(P:VB w1 b v)(Q:w.heap.size<=b)(T:Ext (λk=>yA s.ceA=dy k) w1 w9)
  (h9:w9.ownsRow B 87 4 (ee u (cs.length+1) A) (cs.length+1) (cs.flatMap JR++JR ⟨dS,v,(0,0),b⟩))(L:∀k,yA u=dy k->yA s.ceA=dy k\/w1.heap.size<=k)(er:¬yA u=dy b):
  Bb R H m B tg w (cs++[⟨dS,v,(0,0),b⟩]) stk bd (·={s with ceA:=u,ceK:=A}) (w9.setCell ⟨H,0,dD⟩ (ee u (cs.length+1) A)):=by
 have ev:=G.size;have ew:=ae P;have N:=h.grow G;have O:Ext (·=H) w9 (w9.setCell ⟨H,0,dD⟩ (ee u (cs.length+1) A)):=Ext.set1 _ _ _ _;obtain⟨V,W⟩:=zE (w9.setCell ⟨H,0,dD⟩ (ee u (cs.length+1) A));rw[W] at O⊢;have I:Ext (λk=>yA s.ceA=dy k\/k=H) w1 V:=(T.mono (λk q=> .inl q)).trans O (λk e=> .inl (.inr e));have D:∀k,(yA s.ceA=dy k\/k=H)->(tg k= .ce\/tg k= .hp)/\tg k≠ .no:=λk e=>by
  rcases e with e|e
  ·rw[h.t4 k e];simp
  ·rw[e,h.t2];simp
 have z:=N.keep (Zx:=λt=>t= .ce\/t= .hp) I D;have es:=T.heap (N.x.hp (by simp)) (λe=>by have:=h.t4 H e;rw[h.t2] at this;simp at this);have X:=b5 w9 H 0 _ _ (ee u (cs.length+1) A) es;rw[W] at X;have et:¬yA u=dy H:=λe=>by
  rcases L H e with q|q
  ·have:=h.t4 H q;rw[h.t2] at this;simp at this
  ·have:=(h.lo H (by rw[h.t2];simp)).2;omega
 have Y:=af h9 O (λk D e=>by rw[aa,e] at D;exact et D);have C:=J3 h G h.t4 L b Q (.fl cs.length);have en:(cs++[(⟨dS,v,(0,0),b⟩:Cl)]).length=cs.length+1:=by simp
 have ep:VB V b v:=I.heap P (λe=>by
  have f:tg b≠ .no:=(D b e).2;have:=(h.lo b f).2;omega)
 refine⟨λk=>if yA u=dy k then .ce else if k=b then .fl cs.length else tg k,{s with ceA:=u,ceK:=A},⟨⟨λ_=>z.run (by simp),λ_=>by rw[en];exact X,λ_=>z.st (by simp),λ_=>by rw[en,cr,cX];exact Y,λ_=>z.se (by simp),λ_=>z.ou (by simp),λn q f _=>z.fr n q f (by simp),λn q f _=> ?_,z.inn,z.fail⟩,λn q f=>(C _ (by rw[h.tr n q f];simp)).trans (h.tr n q f),λn q f=> ?_,(C R (by rw[h.t1];simp)).trans h.t1,(C H (by rw[h.t2];simp)).trans h.t2,λk e=>(C k (by rw[h.t3 k e];simp)).trans (h.t3 k e),λk e=>bx e,λk e=>(C k (by rw[h.t5 k e];simp)).trans (h.t5 k e),λk e=>(C k (by rw[h.t6 k e];simp)).trans (h.t6 k e),λk e=> ?_⟩,rfl, ?_,λk e=> ?_⟩
 ·by_cases c:n<cs.length
  ·rw[ax c] at f
   exact z.fl n q f (by simp)
  ·rw[aE (by omega)] at f
   obtain⟨_,e⟩:=ag.1 f;rw[cD] at e;rw[<-e];exact ep
 ·by_cases c:n<cs.length
  ·rw[ax c] at f
   exact(C _ (by rw[h.tl n q f];simp)).trans (h.tl n q f)
  ·rw[aE (by omega)] at f
   obtain⟨hl,e⟩:=ag.1 f;rw[cD] at e;rw[cb] at hl;rw[<-e]
   show(if yA u=dy b then _ else _)=_
   rw[bl er,bx rfl,show n=cs.length by omega]
 ·by_cases E:yA u=dy k
  ·exact Y.lt k (by rw[aa];exact E)
  ·by_cases J:k=b
   ·rw[J];exact⟨ci (h.lo R (by rw[h.t1];simp)).1 (ci (Nat.le_of_lt (h.lo R (by rw[h.t1];simp)).2) Q),ae ep⟩
   ·have eq:tg k≠ .no:=λa=>e (by simp only[bl E,bl J];exact a)
    exact⟨(h.lo k eq).1,bh (N.lo k eq).2 I.size⟩
 ·exact(Ext.of_below_size (M:=λ_=>False) G |>.mono (λ_ q=>q.elim)).trans I (λk q=> .inl (D k q).2)
 ·by_cases E:yA u=dy k
  ·rcases L k E with q|q
   ·exact .inl (by rw[h.t4 k q];simp)
   ·exact .inr (by omega)
  ·by_cases J:k=b
   ·exact .inr (by omega)
   ·exact .inl (λa=>e (by simp only[bl E,bl J];exact a))
theorem Wm.pushS (h:Wm R H m B tg s cs stk bd w){w1 w9:World}{x:Sn}{z:bo}{f:cL Addr}(E:bt w.heap.size w w1)(N:Ext (λk=>yA s.seA=dy k) w1 w9)
  (W:w9.ownsRow B 83 4 (ee f (bd.length+1) z) (bd.length+1) (bd.flatMap KR++KR x))(G:∀k,yA f=dy k->yA s.seA=dy k\/w1.heap.size<=k):
  Bb R H m B tg w cs stk (bd++[x]) (·={s with seA:=f,seK:=z}) (w9.setCell ⟨R,9,dD⟩ (ee f (bd.length+1) z)):=by
 have ep:=E.size;have I:=h.grow E;have J:Ext (·=R) w9 (w9.setCell ⟨R,9,dD⟩ (ee f (bd.length+1) z)):=Ext.set1 _ _ _ _;obtain⟨X,O⟩:=zE (w9.setCell ⟨R,9,dD⟩ (ee f (bd.length+1) z));rw[O] at J⊢;have L:Ext (λk=>yA s.seA=dy k\/k=R) w1 X:=(N.mono (λk q=> .inl q)).trans J (λk e=> .inl (.inr e));have A:∀k,(yA s.seA=dy k\/k=R)->(tg k= .se\/tg k= .run)/\tg k≠ .no:=λk e=>by
  rcases e with e|e
  ·rw[h.t5 k e];simp
  ·rw[e,h.t1];simp
 have v:=I.keep (Zx:=λt=>t= .se\/t= .run) L A;have Y:=N.heap (I.x.run (by simp)) (λe=>by have:=h.t5 R e;rw[h.t1] at this;simp at this);have P:=b5 w9 R 9 _ _ (ee f (bd.length+1) z) Y;rw[O] at P;have en:¬yA f=dy R:=λe=>by
  rcases G R e with q|q
  ·have:=h.t5 R q;rw[h.t1] at this;simp at this
  ·have:=(h.lo R (by rw[h.t1];simp)).2;omega
 have Q:=af W J (λk A e=>by rw[aa,e] at A;exact en A);have C:∀k,tg k≠ .no->(if yA f=dy k then .se else tg k)=tg k:=λk A=>by
  split
  ·rename_i e
   rcases G k e with q|q
   ·exact(h.t5 k q).symm
   ·have:=(h.lo k A).2;omega
  ·rfl
 have T:(bd++[x]).length=bd.length+1:=by simp
 refine⟨λk=>if yA f=dy k then .se else tg k,{s with seA:=f,seK:=z},⟨⟨λ_=>by rw[T];exact P,λ_=>v.hp (by simp),λ_=>v.st (by simp),λ_=>v.ce (by simp),λ_=>by rw[T,cr,cX];exact Q,λ_=>v.ou (by simp),λn q u _=>v.fr n q u (by simp),λn q u _=>v.fl n q u (by simp),v.inn,v.fail⟩,λn q u=>(C _ (by rw[h.tr n q u];simp)).trans (h.tr n q u),λn q u=>(C _ (by rw[h.tl n q u];simp)).trans (h.tl n q u),(C R (by rw[h.t1];simp)).trans h.t1,(C H (by rw[h.t2];simp)).trans h.t2,λk e=>(C k (by rw[h.t3 k e];simp)).trans (h.t3 k e),λk e=>(C k (by rw[h.t4 k e];simp)).trans (h.t4 k e),λk e=>bx e,λk e=>(C k (by rw[h.t6 k e];simp)).trans (h.t6 k e),λk e=> ?_⟩,rfl, ?_,λk e=> ?_⟩
 ·by_cases D:yA f=dy k
  ·exact Q.lt k (by rw[aa];exact D)
  ·have V:tg k≠ .no:=λa=>e (by simp only[bl D];exact a)
   exact⟨(h.lo k V).1,bh (I.lo k V).2 L.size⟩
 ·exact(Ext.of_below_size (M:=λ_=>False) E |>.mono (λ_ q=>q.elim)).trans L (λk q=> .inl (A k q).2)
 ·by_cases D:yA f=dy k
  ·rcases G k D with q|q
   ·exact .inl (by rw[h.t5 k q];simp)
   ·exact .inr (by omega)
  ·exact .inl (λa=>e (by simp only[bl D];exact a))
theorem Wm.pushO (h:Wm R H m B tg s cs stk bd w){w1 w9:World}{V:bq cy}{z:bo}{f:cL Addr}(E:bt w.heap.size w w1)(N:Ext (λk=>yA s.ouA=dy k) w1 w9)
  (W:w9.ownsRow B 5 1 (ee f (s.no+1) z) (s.no+1) V)(G:∀k,yA f=dy k->yA s.ouA=dy k\/w1.heap.size<=k):
  Bb R H m B tg w cs stk bd (·={s with ouA:=f,ouK:=z,no:=s.no+1}) (w9.setCell ⟨H,4,dD⟩ (ee f (s.no+1) z)):=by
 have ep:=E.size;have I:=h.grow E;have J:Ext (·=H) w9 (w9.setCell ⟨H,4,dD⟩ (ee f (s.no+1) z)):=Ext.set1 _ _ _ _;obtain⟨X,O⟩:=zE (w9.setCell ⟨H,4,dD⟩ (ee f (s.no+1) z));rw[O] at J⊢;have L:Ext (λk=>yA s.ouA=dy k\/k=H) w1 X:=(N.mono (λk q=> .inl q)).trans J (λk e=> .inl (.inr e));have A:∀k,(yA s.ouA=dy k\/k=H)->(tg k= .ou\/tg k= .hp)/\tg k≠ .no:=λk e=>by
  rcases e with e|e
  ·rw[h.t6 k e];simp
  ·rw[e,h.t2];simp
 have v:=I.keep (Zx:=λt=>t= .ou\/t= .hp) L A;have Y:=N.heap (I.x.hp (by simp)) (λe=>by have:=h.t6 H e;rw[h.t2] at this;simp at this);have P:=b5 w9 H 4 _ _ (ee f (s.no+1) z) Y;rw[O] at P;have en:¬yA f=dy H:=λe=>by
  rcases G H e with q|q
  ·have:=h.t6 H q;rw[h.t2] at this;simp at this
  ·have:=(h.lo H (by rw[h.t2];simp)).2;omega
 have Q:=af W J (λk A e=>by rw[aa,e] at A;exact en A);have C:∀k,tg k≠ .no->(if yA f=dy k then .ou else tg k)=tg k:=λk A=>by
  split
  ·rename_i e
   rcases G k e with q|q
   ·exact(h.t6 k q).symm
   ·have:=(h.lo k A).2;omega
  ·rfl
 refine⟨λk=>if yA f=dy k then .ou else tg k,{s with ouA:=f,ouK:=z,no:=s.no+1},⟨⟨λ_=>v.run (by simp),λ_=>P,λ_=>v.st (by simp),λ_=>v.ce (by simp),λ_=>v.se (by simp),λ_=>⟨_,Q⟩,λn q u _=>v.fr n q u (by simp),λn q u _=>v.fl n q u (by simp),v.inn,v.fail⟩,λn q u=>(C _ (by rw[h.tr n q u];simp)).trans (h.tr n q u),λn q u=>(C _ (by rw[h.tl n q u];simp)).trans (h.tl n q u),(C R (by rw[h.t1];simp)).trans h.t1,(C H (by rw[h.t2];simp)).trans h.t2,λk e=>(C k (by rw[h.t3 k e];simp)).trans (h.t3 k e),λk e=>(C k (by rw[h.t4 k e];simp)).trans (h.t4 k e),λk e=>(C k (by rw[h.t5 k e];simp)).trans (h.t5 k e),λk e=>bx e,λk e=> ?_⟩,rfl, ?_,λk e=> ?_⟩
 ·by_cases D:yA f=dy k
  ·exact Q.lt k (by rw[aa];exact D)
  ·have T:tg k≠ .no:=λa=>e (by simp only[bl D];exact a)
   exact⟨(h.lo k T).1,bh (I.lo k T).2 L.size⟩
 ·exact(Ext.of_below_size (M:=λ_=>False) E |>.mono (λ_ q=>q.elim)).trans L (λk q=> .inl (A k q).2)
 ·by_cases D:yA f=dy k
  ·rcases G k D with q|q
   ·exact .inl (by rw[h.t6 k q];simp)
   ·exact .inr (by omega)
  ·exact .inl (λa=>e (by simp only[bl D];exact a))
theorem Wm.pop {r:Fr}(h:Wm R H m B tg s cs (stk++[r]) bd w):
  Bb R H m B tg w cs stk bd (·=s) (w.setCell ⟨R,3,dD⟩ (ee s.stA stk.length s.stK)):=by
 have v:Ext (·=R) w (w.setCell ⟨R,3,dD⟩ (ee s.stA stk.length s.stK)):=Ext.set1 _ _ _ _;have f:=h.keep (Zx:=(·= .run)) v (λk e=>by rw[e,h.t1];simp);have A:=b5 w R 3 _ _ (ee s.stA stk.length s.stK) (h.x.run (by simp));have z:=f.st (by simp);rw[ca,cb,cr] at z;have C:∀l:bq Fr,(l.flatMap JS).length=l.length*3:=λl=>by
  induction l with
  |nil=>rfl
  |cons a l ih=>rw[co,ca,ih];simp[JS];omega
 exact⟨tg,s,⟨⟨λ_=>A,λ_=>f.hp (by simp),λ_=>vM z (C stk),λ_=>f.ce (by simp),λ_=>f.se (by simp),λ_=>f.ou (by simp),λn q u _=>f.fr n q (by rw[ax (ag.1 u).1];exact u) (by simp),λn q u _=>f.fl n q u (by simp),f.inn,f.fail⟩,λn q u=>h.tr n q (by rw[ax (ag.1 u).1];exact u),h.tl,h.t1,h.t2,h.t3,h.t4,h.t5,h.t6,h.lo2 v⟩,rfl,v.mono (λk e=>by rw[e,h.t1];simp),λk D=> .inl D⟩
theorem Wm.pc (h:Wm R H m B tg s cs stk bd w){d:bo}{r:Fr}(v:stk[d]?=dy r){g:bo}(A:yA s.stA=dy g)(pc:bo):
  Bb R H m B tg w cs (stk.set d {r with pc:=pc}) bd (·=s) (w.setCell ⟨g,d*3+1,dD⟩ (Z U (pc:aq))):=by
 have C:Ext (·=g) w (w.setCell ⟨g,d*3+1,dD⟩ (Z U (pc:aq))):=Ext.set1 _ _ _ _;have D:=h.t3 g A;have f:=h.keep (Zx:=(·= .st)) C (λk e=>by rw[e,D];simp);have E:=(ag.1 v).1;have G:=h.x.st (by simp);obtain⟨L,cap,z,_,_⟩:=G.form (by omega);have I:s.stA=dy ⟨g,0,dD⟩:=by
  simp only[cz,true_and] at z;obtain⟨z,_⟩:=z;rw[z] at A⊢;have:L=g:=by simpa[yA,cC] using A
  rw[this]
 have J:=(show w.ownsRow B 218 3 (ee (dy ⟨g,0,dD⟩) stk.length s.stK) stk.length (stk.flatMap JS) by rw[<-I];exact G).stored (d*3+1) (Z U (pc:aq));rw[I7 (c:=3) (λ_=>rfl) stk d r {r with pc:=pc} 1 _ v rfl (by omega),<-I] at J;refine⟨tg,s,⟨⟨λ_=>by rw[ck];exact f.run (by simp),λ_=>f.hp (by simp),λ_=>by rw[ck];exact J.1,λ_=>f.ce (by simp),λ_=>f.se (by simp),λ_=>f.ou (by simp),λn q u _=> ?_,λk c N _=>f.fl k c N (by simp),f.inn,f.fail⟩,λn q u=> ?_,h.tl,h.t1,h.t2,h.t3,h.t4,h.t5,h.t6,h.lo2 C⟩,rfl,C.mono (λk e=>by rw[e,D];simp),λk O=> .inl O⟩
 ·by_cases e:d=n
  ·subst e
   rw[be E] at u;obtain rfl:=ar u;exact f.fr d r v (by simp)
  ·rw[bj e] at u
   exact f.fr n q u (by simp)
 ·by_cases e:d=n
  ·subst e
   rw[be E] at u;obtain rfl:=ar u;exact h.tr d r v
  ·rw[bj e] at u
   exact h.tr n q u
theorem Wm.cel (h:Wm R H m B tg s cs stk bd w){d:bo}{c c':Cl}(z:cs[d]?=dy c){g:bo}(C:yA s.ceA=dy g){j:bo}{u:cy}(O:j<4)(P:JR c'=(JR c).set j u)(E:c'.b=c.b)(Q:c'.fs=c.fs):
  Bb R H m B tg w (cs.set d c') stk bd (·=s) (w.setCell ⟨g,d*4+j,dD⟩ u):=by
 have D:Ext (·=g) w (w.setCell ⟨g,d*4+j,dD⟩ u):=Ext.set1 _ _ _ _;have G:=h.t4 g C;have v:=h.keep (Zx:=(·= .ce)) D (λk e=>by rw[e,G];simp);have I:=(ag.1 z).1;have J:=h.x.ce (by simp);obtain⟨T,cap,A,_,_⟩:=J.form (by omega);have L:s.ceA=dy ⟨g,0,dD⟩:=by
  simp only[cz,true_and] at A;obtain⟨A,_⟩:=A;rw[A] at C⊢;have:T=g:=by simpa[yA,cC] using C
  rw[this]
 have N:=(show w.ownsRow B 87 4 (ee (dy ⟨g,0,dD⟩) cs.length s.ceK) cs.length (cs.flatMap JR) by rw[<-L];exact J).stored (d*4+j) u;rw[I7 (c:=4) (λ_=>rfl) cs d c c' j u z P O,<-L] at N;refine⟨tg,s,⟨⟨λ_=>v.run (by simp),λ_=>by rw[ck];exact v.hp (by simp),λ_=>v.st (by simp),λ_=>by rw[ck];exact N.1,λ_=>v.se (by simp),λ_=>v.ou (by simp),λn q f _=>v.fr n q f (by simp),λn q f _=> ?_,v.inn,v.fail⟩,h.tr,λn q f=> ?_,h.t1,h.t2,h.t3,h.t4,h.t5,h.t6,h.lo2 D⟩,rfl,D.mono (λk e=>by rw[e,G];simp),λk V=> .inl V⟩
 ·by_cases e:d=n
  ·subst e
   rw[be I] at f;obtain rfl:=ar f;rw[E,Q];exact v.fl d c z (by simp)
  ·rw[bj e] at f
   exact v.fl n q f (by simp)
 ·by_cases e:d=n
  ·subst e
   rw[be I] at f;obtain rfl:=ar f;rw[E];exact h.tl d c z
  ·rw[bj e] at f
   exact h.tl n q f
end
end Go.Proofs.YtjomgckjhcfbgaaGreat
