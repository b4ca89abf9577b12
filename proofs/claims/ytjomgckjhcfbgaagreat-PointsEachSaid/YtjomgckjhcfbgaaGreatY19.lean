/- Walks. -/
import Derived.Test.YtjomgckjhcfbgaaGreatY18
set_option maxRecDepth 100000
set_option maxHeartbeats 64000000
set_option linter.all false
namespace Go.Proofs.YtjomgckjhcfbgaaGreat
open Go.RowKit
open _root_.List renaming getElem?_eq_some_iff→ap,mem_of_getElem?→cf,mem_singleton→cH,mem_append→cT,flatMap_cons→el,mem_flatMap→em,getElem?_append_right→et,mem_cons→fy,pairwise_iff_getElem→gi,getElem_map→mC
open _root_ renaming List→bm,Int→bp,Nat→bx,if_neg→cE,if_pos→cR,Option→eA,congrArg→eM,absurd→fW,beq_iff_eq→mN,and_true→pc
open _root_.Option.some renaming inj→cD
open _root_.Int renaming toNat_natCast→cP,toNat_of_nonneg→gS,ofNat_inj→mu
open _root_.Prod.mk renaming injEq→cU
open _root_.Nat renaming zero_add→cV,add_assoc→sB
open _root_.Classical renaming byContradiction→er
open _root_.Bool renaming and_eq_true→eN,or_eq_false_iff→ij,true→tE,false→tG
open _root_.Prod renaming fst→lE,snd→oA
open _root_.Option renaming bind_some→oT,some→tB
open Tryz
theorem wU {f:bp}{x:XI}:∀{l:bm Ins}{k:bx},x∈eu f k l->∃q:bx,l[q]?=tB x.2.2/\x.1=f/\x.2.1=((k+q:bx):bp)
 |[],_,h=>by simp[eu] at h
 |i::r,k,h=>by
  unfold eu at h;rcases fy.1 h with rfl|h
  ·exact⟨0,rfl,rfl,rfl⟩
  ·obtain⟨q,a,b,c⟩:=wU h
   exact⟨q+1,by simpa using a,b,by rw[c];congr 1;omega⟩
theorem Au {x:XI}:∀{l:bm Fn}{f:bx},x∈eZ f l->∃(j q:bx) (g:Fn),l[j]?=tB g/\g.c.ins[q]?=tB x.2.2/\x.1=((f+j:bx):bp)/\x.2.1=(q:bp)
 |[],_,h=>by simp[eZ] at h
 |g::r,f,h=>by
  unfold eZ at h;rcases cT.1 h with h|h
  ·obtain⟨q,a,b,c⟩:=wU h
   exact⟨0,q,g,rfl,a,by rw[b];rfl,by rw[c,cV]⟩
  ·obtain⟨j,q,u,a,b,c,d⟩:=Au h
   exact⟨j+1,q,u,by simpa using a,b,by rw[c];congr 1;omega,d⟩
theorem kZ {m:Mo}{x:XI}(h:x∈m.xi):∃(j k:bx) (g:Fn) (i:Ins),m.fs[j]?=tB g/\g.c.ins[k]?=tB i/\x=((j:bp),(k:bp),i):=by
 obtain⟨j,k,g,a,b,c,d⟩:=Au h;refine⟨j,k,g,x.2.2,a,b, ?_⟩;rw[cV] at c;exact Prod.ext c (Prod.ext d rfl)
theorem ql {n:Nd}{y:bx}:∀{l:bm XI}{c:bx},(n,y)∈aN c l->∃(x:XI) (q:bx),x∈l/\x.2.2.op=12/\n=av x.1 x.2.2.d/\y=c+q/\(aj l)[q]?=tB (x.1,x.2.1)
 |[],_,h=>by simp[aN] at h
 |x::r,c,h=>by
  unfold aN at h;have e:aj (x::r)=iK x.1 x.2.1 x.2.2++aj r:=by unfold aj;rw[el]
  rw[e];rcases cT.1 h with h|h
  ·unfold mi at h
   unfold iK
   by_cases u:x.2.2.op=12
   ·rw[cR u,cH] at h
    rw[cR u];exact⟨x,0,by simp,u,eM lE h,eM oA h,rfl⟩
   ·rw[cE u] at h
    simp at h
  ·obtain⟨x',q,a,b,d,f,g⟩:=ql h
   refine⟨x',(iK x.1 x.2.1 x.2.2).length+q,by simp[a],b,d,by rw[f,sB], ?_⟩;rw[et (by omega),Nat.add_sub_cancel_left];exact g
def Mo.siteI (m:Mo)(y:bx):eA Ins:=(aj m.xi)[y]?.bind λp=>(m.fs[p.1.toNat]?).bind λg=>g.c.ins[p.2.toNat]?
def Mo.siteS (m:Mo)(y:bx):eA St:=(m.siteI y).bind λi=>m.ss[i.f.toNat]?
inductive pF (m:Mo):Nd->Ty->Prop
 |var {f:bx} {g:Fn} {v:bp}:m.fs[f]?=tB g->0<=v->v<g.vs.length->pF m (av (f:bp) v) (az g.vs v)
 |res {f:bx} {g:Fn}:m.fs[f]?=tB g->pF m (cZ (f:bp)) g.ret
 |fld {y k:bx} {s:St} {x:Fd}:m.siteS y=tB s->s.fs[k]?=tB x->pF m (bN (y:bp) (k:bp)) x.ty
theorem gZ {m:Mo}{n:Nd}{t1 t2:Ty}(A:pF m n t1)(q:pF m n t2):t1=t2:=by
 cases A with
 |var a b c=>
  generalize d:av _ _=u at q;cases q with
  |var f h v=>
   simp only[av,cU,mu] at d;obtain⟨rfl,rfl,_⟩:=d;rw[a] at f;rw[cD f]
  |res f=>
   simp only[av,cZ,cU] at d;omega
  |fld f h=>
   simp only[av,bN,cU] at d;omega
 |res a=>
  generalize d:cZ _=u at q;cases q with
  |var f h v=>
   simp only[av,cZ,cU] at d;omega
  |res f=>
   simp only[cZ,cU,mu] at d;obtain⟨rfl,_⟩:=d;rw[a] at f;rw[cD f]
  |fld f h=>
   simp only[cZ,bN,cU] at d;omega
 |fld a b=>
  generalize d:bN _ _=u at q;cases q with
  |var f h v=>
   simp only[av,bN,cU] at d;omega
  |res f=>
   simp only[cZ,bN,cU] at d;omega
  |fld f h=>
   simp only[bN,cU,mu,true_and] at d;obtain⟨rfl,rfl⟩:=d;rw[a] at f;obtain rfl:=cD f;rw[b] at h;rw[cD h]
section
variable {m:Mo}
theorem mW (hr:bf m=0){s s':St}{q:bx}(f:m.ss[q]?=tB s)(h:m.ss[(m.stIx s.s.nm).toNat]?=tB s'):s'=s:=by
 have hq:=(ap.1 f).1;have ud:(m.ss.map λs=>s.s.nm).Nodup:=by
  have u:=(dJ hr).2.2.1;unfold dz at u;simp only[ij,decide_eq_false_iff_not,Classical.not_not] at u;exact u.1.2
 unfold Mo.stIx fT at h;have G:m.ss.findIdx (λx=>x.s.nm==s.s.nm)<m.ss.length:=by
  rw[List.findIdx_lt_length];exact⟨s,cf f,by simp⟩
 rw[cR G] at h;have hp:=List.findIdx_getElem (p:=λx:St=>x.s.nm==s.s.nm) (w:=G);obtain⟨J,v⟩:=ap.1 h;simp only[cP] at J v;have hn:s'.s.nm=s.s.nm:=by
  rw[<-v];simpa using hp
 have uc:=(gi.1 ud)
 have ue:∀(a b:bx)(A:a<m.ss.length) (D:b<m.ss.length),m.ss[a].s.nm=m.ss[b].s.nm->a=b:=λa b A D e=>by
  rcases Nat.lt_trichotomy a b with d|d|d
  ·exact fW (by rw[mC,mC];exact e) (uc a b (by simpa using A) (by simpa using D) d)
  ·exact d
  ·exact fW (by rw[mC,mC];exact e.symm) (uc b a (by simpa using D) (by simpa using A) d)
 have ur:=(ap.1 f).2;have:=ue _ _ J hq (by rw[v,ur];exact hn);rw[cP,this,f] at h;exact(cD h).symm
theorem pG {u:bm Vr}{i:Ins}{o:bp}(h:bV m u i o tE=0):(az u i.a).1=tE/\0<=i.f/\∃(s:St) (x:Fd),m.ss[(m.stIx (az u i.a).2).toNat]?=tB s/\s.fs[i.f.toNat]?=tB x/\x.ty=az u o/\x.ty.1=tE:=by
 unfold bV at h
 by_cases A:(aI m u i.a i.f).2≠0
 ·rw[cR A] at h;exact fW h A
 ·rw[cE A] at h
  have d:(aI m u i.a i.f).2=0:=er A;have q:=iZ (by decide) h;rw[eN,mN,mN] at q;obtain⟨q,v⟩:=q;unfold aI at d q v
  by_cases D:(az u i.a).1=tG
  ·rw[cR D] at d;exact fW d (by simp)
  ·rw[cE D] at d q v
   cases J:m.ss[(m.stIx (az u i.a).2).toNat]? with
   |none=>rw[J] at d;exact fW d (by simp)
   |some s=>
    rw[J] at d q v;simp only at d q v
    by_cases hf:i.f<0
    ·rw[cR hf] at d;exact fW d (by simp)
    ·rw[cE hf] at d q v
     cases G:s.fs[i.f.toNat]? with
     |none=>rw[G] at d;exact fW d (by simp)
     |some x=>
      rw[G] at q v;exact⟨by simpa using D,by omega,s,x,rfl,G,q,v⟩
theorem pI {g:Fn}{i:Ins}(h0:aD m g i=0)(h:i.op=10\/i.op=11):bV m g.vs i (if i.op=10 then i.d else i.b) tE=0:=by
 unfold aD ay at h0;rcases h with h|h
 ·simp only[h] at h0⊢
  generalize (aJ g.vs.length (readsOf i++if nZ 10=tE then[i.d] else[]))=z at h0;cases z with
  |false=>simp at h0
  |true=>simpa using h0
 ·simp only[h] at h0⊢
  generalize (aJ g.vs.length (readsOf i++if nZ 11=tE then[i.d] else[]))=z at h0;cases z with
  |false=>simp at h0
  |true=>simpa using h0
theorem CB {g:Fn}{i:Ins}(h0:aD m g i=0)(h:i.op=12):∃s,m.ss[i.f.toNat]?=tB s/\az g.vs i.d=(tE,s.s.nm)/\0<=i.f:=by
 unfold aD ay at h0;simp only[h] at h0;generalize (aJ g.vs.length (readsOf i++if nZ 12=tE then[i.d] else[]))=z at h0;cases z with
 |false=>simp at h0
 |true=>
  simp at h0
  split at h0
  ·exact fW h0 (by decide)
  ·rename_i u
   split at h0
   ·exact fW h0 (by decide)
   ·rename_i s q
    have:=iZ (by decide) h0;exact⟨s,q,by simpa using this,by omega⟩
theorem E5 {g:Fn}{i:Ins}(h0:aD m g i=0)(h:i.op=9):az g.vs i.a=az g.vs i.d:=by
 unfold aD ay at h0;simp only[h] at h0;generalize (aJ g.vs.length (readsOf i++if nZ 9=tE then[i.d] else[]))=z at h0;cases z with
 |false=>simp at h0
 |true=>
  simp at h0;have:=iZ (by decide) h0;simp at this;exact this.2
theorem Gc {g:Fn}{i:Ins}(h0:aD m g i=0)(h:i.op=18):az g.vs i.a=g.ret:=by
 unfold aD at h0;simp only[h] at h0;generalize (aJ g.vs.length (readsOf i++if nZ 18=tE then[i.d] else[]))=z at h0;cases z with
 |false=>simp at h0
 |true=>
  simp at h0;have:=iZ (by decide) h0;simpa using this
end
section
variable {m:Mo}
theorem Av {j k y:bx}{g:Fn}{i:Ins}(d:m.fs[j]?=tB g)(f:g.c.ins[k]?=tB i)(h:(aj m.xi)[y]?=tB ((j:bp),(k:bp))):m.siteI y=tB i:=by
 unfold Mo.siteI;rw[h,oT];simp only[cP];rw[d,oT];exact f
theorem pJ {y:bx}{s:St}(h:m.siteS y=tB s):∃q:bx,m.ss[q]?=tB s:=by
 unfold Mo.siteS at h;cases d:m.siteI y with
 |none=>rw[d] at h;simp at h
 |some i=>rw[d] at h;exact⟨_,h⟩
theorem CE {f q:bm Vr}:∀{l:bm bp}{c n:bx}{a:bp},iF f q c l=tE->l[n]?=tB a->az f a=az q ((c+n:bx):bp)
 |[],_,_,_,_,h=>by simp at h
 |x::r,c,0,a,h,d=>by
  obtain rfl:x=a:=by simpa using d
  unfold iF at h;rw[eN,mN] at h;exact h.1
 |x::r,c,n+1,a,h,d=>by
  unfold iF at h;rw[eN] at h;have:=CE h.2 (by simpa using d:r[n]?=tB a);rw[this,show c+1+n=c+(n+1) by omega]
theorem wV {f q:bp}{e:Nd×Nd}:∀{l:bm bp}{c:bx},e∈gu f q c l->∃(n:bx) (a:bp),l[n]?=tB a/\e=(av f a,av q ((c+n:bx):bp))
 |[],_,h=>by simp[gu] at h
 |x::r,c,h=>by
  unfold gu at h;rcases fy.1 h with rfl|h
  ·exact⟨0,x,rfl,rfl⟩
  ·obtain⟨n,a,d,u⟩:=wV h
   exact⟨n+1,a,by simpa using d,by rw[u,show c+1+n=c+(n+1) by omega]⟩
theorem ug {f:bp}{i:Ins}{e:Nd×Nd}(h:e∈iU f i):(i.op=9/\e=(av f i.a,av f i.d))\/(i.op=15/\((∃(n:bx) (a:bp),i.args[n]?=tB a/\e=(av f a,av i.f (n:bp)))\/e=(cZ i.f,av f i.d)))\/(i.op=18/\e=(av f i.a,cZ f)):=by
 unfold iU at h
 by_cases u:i.op=9
 ·rw[cR u,cH] at h;exact .inl ⟨u,h⟩
 rw[cE u] at h
 by_cases q:i.op=15
 ·rw[cR q] at h
  rcases cT.1 h with h|h
  ·obtain⟨n,a,D,A⟩:=wV h
   rw[cV] at A;exact .inr (.inl ⟨q,.inl ⟨n,a,D,A⟩⟩)
  ·exact .inr (.inl ⟨q,.inr (cH.1 h)⟩)
 rw[cE q] at h
 by_cases v:i.op=18
 ·rw[cR v,cH] at h;exact .inr (.inr ⟨v,h⟩)
 ·rw[cE v] at h;simp at h
theorem uh {f:bp}{i:Ins}{e:Nd×Th}(h:e∈jo f i):(i.op=10/\e=(av f i.a,(i.f,av f i.d,tG)))\/(i.op=11/\e=(av f i.a,(i.f,av f i.b,tE))):=by
 unfold jo at h
 by_cases q:i.op=10
 ·rw[cR q,cH] at h;exact .inl ⟨q,h⟩
 rw[cE q] at h
 by_cases u:i.op=11
 ·rw[cR u,cH] at h;exact .inr ⟨u,h⟩
 ·rw[cE u] at h;simp at h
theorem bH {j:bx}{g:Fn}{v:bp}(f:m.fs[j]?=tB g)(d:isVar g.vs.length v=tE):pF m (av (j:bp) v) (az g.vs v):= .var f (bU d).1 (bU d).2
theorem Aw (hr:bf m=0){n:Nd}{y:bx}(h:m.lf n y):∃s,m.siteS y=tB s/\pF m n (tE,s.s.nm):=by
 induction h with
 |base hb=>
  obtain⟨x,q,hx,ur,h1,J,h3⟩:=ql hb;obtain⟨j,k,g,i,u,D,rfl⟩:=kZ hx;simp only at ur h1 h3;rw[cV] at J;subst J;have h0:=dw hr u D;obtain⟨s,hs,v,_⟩:=CB h0 ur;obtain⟨_,_,_,q4,_⟩:=bK h0;refine⟨s, ?_, ?_⟩
  ·unfold Mo.siteS
   rw[Av u D h3,oT];exact hs
  ·rw[h1,<-v]
   exact bH u (q4 (by rw[ur];rfl))
 |edge he _ ih=>
  obtain⟨s,h1,J⟩:=ih;refine⟨s,h1, ?_⟩;obtain⟨x,hx,he⟩:=em.1 he;obtain⟨j,k,g,i,u,D,rfl⟩:=kZ hx;have h0:=dw hr u D;obtain⟨_,_,G,q4,q5⟩:=bK h0;rcases ug he with⟨h9,e⟩|⟨uv,e⟩|⟨vd,e⟩
  ·simp only[cU] at e
   obtain⟨rfl,rfl⟩:=e;have A:=bH u (G i.a (by unfold readsOf;rw[h9];simp[oH]));rw[gZ J A,E5 h0 h9];exact bH u (q4 (by rw[h9];rfl))
  ·obtain⟨c1,g',c2,c3,c4,c5,c6⟩:=nW (q5 uv)
   have hf:i.f=((i.f.toNat:bx):bp):=(gS c1).symm;rcases e with⟨n,a,hn,e⟩|e
   ·simp only[cU] at e
    obtain⟨rfl,rfl⟩:=e;have A:=bH u (G a (by unfold readsOf;rw[cR uv];simp[cf hn]));have v:=CE c5 hn;rw[cV] at v;have vh:n<i.args.length:=(ap.1 hn).1;rw[gZ J A,v,hf];exact .var c2 (by omega) (by omega)
   ·simp only[cU] at e
    obtain⟨rfl,rfl⟩:=e;have vf:pF m (cZ i.f) g'.ret:=by rw[hf];exact .res c2
    rw[gZ J vf,<-c6];exact bH u (q4 (by rw[uv];rfl))
  ·simp only[cU] at e
   obtain⟨rfl,rfl⟩:=e;have A:=bH u (G i.a (by unfold readsOf;rw[vd];simp[oH]));rw[gZ J A,Gc h0 vd];exact .res u
 |@out a d k x y v _ _ ux va=>
  obtain⟨s1,a1,a2⟩:=ux;obtain⟨s2,b1,b2⟩:=va;refine⟨s2,b1, ?_⟩;obtain⟨z,hz,v⟩:=em.1 v;obtain⟨j,q,g,i,u,D,rfl⟩:=kZ hz;have h0:=dw hr u D;obtain⟨_,_,G,q4,_⟩:=bK h0;rcases uh v with⟨ue,e⟩|⟨_,e⟩
  ·simp only[cU,pc] at e
   obtain⟨rfl,rfl,rfl⟩:=e;have hh:=pI h0 (.inl ue);rw[cR ue] at hh;obtain⟨_,hf,s,fd,f1,f2,f3,f4⟩:=pG hh;have A:=bH u (G i.a (by unfold readsOf;rw[ue];simp[oH]));have vc:=gZ A a2;rw[vc] at f1;obtain⟨p,hp⟩:=pJ a1;obtain rfl:=mW hr hp f1;have uc:pF m (bN (x:bp) ((i.f.toNat:bx):bp)) fd.ty:= .fld a1 f2;rw[gS hf] at uc;rw[gZ b2 uc,f3];exact bH u (q4 (by rw[ue];rfl))
  ·simp at e
 |@into a b k x y v _ _ ux va=>
  obtain⟨s1,a1,a2⟩:=ux;obtain⟨s2,b1,b2⟩:=va;refine⟨s2,b1, ?_⟩;obtain⟨z,hz,v⟩:=em.1 v;obtain⟨j,q,g,i,u,D,rfl⟩:=kZ hz;have h0:=dw hr u D;obtain⟨_,_,G,q4,_⟩:=bK h0;rcases uh v with⟨_,e⟩|⟨ud,e⟩
  ·simp at e
  ·simp only[cU,pc] at e
   obtain⟨rfl,rfl,rfl⟩:=e;have ud:i.op=11:=ud;have hh:=pI h0 (.inr ud);rw[cE (by omega)] at hh;obtain⟨_,hf,s,fd,f1,f2,f3,f4⟩:=pG hh;have A:=bH u (G i.a (by unfold readsOf;rw[ud];simp[oH]));have hb:=bH u (G i.b (by unfold readsOf;rw[ud];simp[rz]));have vc:=gZ A a2;rw[vc] at f1;obtain⟨p,hp⟩:=pJ a1;obtain rfl:=mW hr hp f1;have uc:pF m (bN (x:bp) ((i.f.toNat:bx):bp)) fd.ty:= .fld a1 f2;rw[gS hf] at uc;rw[gZ b2 hb,<-f3];exact uc
end
end Go.Proofs.YtjomgckjhcfbgaaGreat
