/- Walks. -/
import Derived.Maps.Own
import Derived.Maps.OwnOps
import Derived.Maps.Views
import Derived.Maps.RangeWalk
import Derived.Laws.IdiomRangeMap
import Derived.Test.YtjomgckjhcfbgaaGreatProg
import Derived.Shelf.Sort.Plain
import Derived.Shelf.Slices.In.SortNone
import Derived.Sort.OwnSortedInts
import Derived.Maps.OwnIn
import Derived.DeepKeys4
import Derived.Test.YtjomgckjhcfbgaaGreatX1
import Derived.Test.YtjomgckjhcfbgaaGreatX8
set_option maxRecDepth 100000
set_option maxHeartbeats 64000000
set_option linter.all false
namespace Go.Proofs.YtjomgckjhcfbgaaGreat
open Go.RowKit
open Go.Proofs.Tryz renaming prog→ac,underlying164→cD,underlying3→cP,underlying4→fX,underlying9→fY,underlying35→gt,underlying162→mb
open Go.RowKit.Below renaming refl→an,heap_alloc→bt
open _root_.List renaming setIfInBounds_toArray→ap,set_cons_zero→bj,set_cons_succ→bk,mem_of_getElem?→ce,length_append→co,mem_append_left→ct,mem_singleton→cA,mem_append→cC,eq_nil_of_length_eq_zero→cY,mem_map→dd,mem_append_right→de,length_map→dj,flatMap_cons→dp,nil_append→ej,mem_flatMap→er,append_assoc→eE,length_cons→eI,pairwise_iff_getElem→fx,length_singleton→fR,mem_cons→fW,all_eq_true→gC,cons_append→gE,nodup_append→iz,append_nil→kh,length_nil→ki,length_range→kA,range→lR,length_mergeSort→mu,mem_cons_of_mem→m5,mem_filter→m7,nodup_cons→oT
open Go.RowKit renaming Below→aq,Hid→ca
open Go renaming heap_setCell_same→aE,cell_of_row→bh,Value→bw,bodyPost_ret→da,frozen_of_row→dg,maxLen→dl,run_underlying→eJ,results_none→eR,Calls→ft,TypeId→ge,Oper→ij,wpListIn_nil→ip,Program→i8,bodyPost_end→j9,plainElem→kq,info_parts→ld,wpIn_region_lit→lB,MapEntry→lE,MemPlace→ml,wpIn_wide→nh,Addr→oA,plainElem_bool→oS,wpListIn→pZ
open _root_.Array renaming getElem?_eq_some_iff→bb,getElem?_toList→m6
open _root_ renaming List→bm,Nat→cd,Int→cj,if_neg→cw,Array→cG,if_pos→cI,Option→du,congrArg→eA,absurd→fL,False→jp,decide_eq_true_eq→js,of_decide_eq_true→nr
open _root_.Nat renaming le_refl→bp,lt_of_lt_of_le→cn,le_trans→cE,zero_add→cH,zero_le→cJ,le_succ→gb,le_succ_of_le→po
open Go.Value renaming oneCell'→br,slice→bx,int→eC,ownBlock→eN,slice→ra,pointer→rb,bool→re,agg→rh,int→Z
open Go.Exit renaming inBlock→cL,noGoto_ret→ii
open Go.Act renaming put→cV
open _root_.Option.some renaming inj→cX,injEq→dc
open _root_.Classical renaming byContradiction→eq
open _root_.Bool renaming and_eq_true→eK,true→qv,false→qS
open Go.Result renaming andThen→eV
open Go.MapKept renaming run_getObj_map→fh,run_setObj_map→gS
open Go.Fence renaming wide→fj
open Go.Instr renaming lookup→fk,mapUpdate→my,entryStore→pp,mapEntry→qq
open Go.Value.slice renaming injEq→fz
open Go.ChangeMaps renaming heap_setBlock_same→iu,setBlock→ix
open Go.WalkArith renaming wf_i64→kj
open _root_.Prod.mk renaming injEq→lz
open _root_.Prod renaming snd→mA
open Go.WideAt renaming IsKeyLit→nx
open Go.Ending renaming returned→pB,returned→rk
open _root_.List.cons renaming injEq→qk
open Go.Maps renaming has→qs
open _root_.Option renaming some→qt,none→qu
open Go.Obj renaming cells→rj
open Go.IntKind renaming i64→U
open Tryz
theorem jZ {α:Type}{f:α->cj}:∀{l:bm α},aM f l=0->∀x∈l,f x=0
 |[],_,x,o=>fL o (by simp)
 |y::r,h,x,o=>by
  unfold aM at h
  by_cases d:f y=0
  ·rw[cI d] at h
   rcases fW.1 o with e|e
   ·rw[e];exact d
   ·exact jZ h x e
  ·rw[cw d] at h;exact fL h d
theorem tu {b:Bool}{f:cj}(d:f≠0)(h:bv b f=0):b=qv:=by
 unfold bv at h;cases b with
 |true=>rfl
 |false=>rw[cw (by simp)] at h;exact fL h d
theorem yK {n:cd}{v:cj}:isVar n v=qv↔0<=v/\v<(n:cj):=by
 unfold isVar;simp
theorem iR {m:Mo}(h:dE m=0):m.fs.length<=60/\m.ss.length<=30/\bX m=qS/\(bE m).all m.known=qv/\(∀g∈m.fs,codeF m g=0)/\0<=m.fnIx cu:=by
 unfold dE at h
 by_cases q:30<m.ss.length\/60<m.fs.length
 ·rw[cI q] at h;exact fL h (by decide)
 ·rw[cw q] at h
  by_cases f:bX m=qv
  ·rw[cI f] at h;exact fL h (by decide)
  ·rw[cw f] at h
   by_cases o:(bE m).all m.known=qS
   ·rw[cI o] at h;exact fL h (by decide)
   ·rw[cw o] at h
    by_cases d:aM (codeF m) m.fs≠0
    ·rw[cI d] at h;exact fL h d
    ·rw[cw d] at h
     have u:=tu (by decide) h;rw[eK,js] at u;exact⟨by omega,by omega,by simpa using f,by simpa using o,jZ (eq d),u.1⟩
theorem lJ {m:Mo}{g:Fn}(h:codeF m g=0):g.vs.length<=300/\1<=g.c.ins.length/\g.c.ins.length<=3000/\0<=g.c.par/\g.c.par<=(g.vs.length:cj)/\(∀i∈g.c.ins,aC m g i=0):=by
 unfold codeF at h
 by_cases f:300<g.vs.length\/g.c.ins.length<1\/3000<g.c.ins.length
 ·rw[cI f] at h;exact fL h (by decide)
 ·rw[cw f] at h
  by_cases o:g.c.par<0\/(g.vs.length:cj)<g.c.par
  ·rw[cI o] at h;exact fL h (by decide)
  ·rw[cw o] at h
   by_cases d:aM (aC m g) g.c.ins≠0
   ·rw[cI d] at h;exact fL h d
   ·exact⟨by omega,by omega,by omega,by omega,by omega,jZ (eq d)⟩
theorem dQ {m:Mo}{g:Fn}{i:Ins}(h:aC m g i=0):1<=i.op/\i.op<=18/\(∀v∈readsOf i,isVar g.vs.length v=qv)/\(ou i.op=qv->isVar g.vs.length i.d=qv)/\(i.op=15->gD m g.vs i=0):=by
 unfold aC at h
 by_cases q:i.op<1\/18<i.op
 ·rw[cI q] at h;exact fL h (by decide)
 ·rw[cw q] at h
  by_cases o:aG g.vs.length (readsOf i++(if ou i.op then[i.d] else[]))=qS
  ·rw[cI o] at h;exact fL h (by decide)
  ·rw[cw o] at h
   have f:aG g.vs.length (readsOf i++(if ou i.op then[i.d] else[]))=qv:=by simpa using o
   unfold aG at f;rw[List.all_append,eK,gC] at f;refine⟨by omega,by omega,f.1,λy=> ?_,λA=> ?_⟩
   ·have u:=f.2
    rw[y] at u;simpa using u
   ·rw[cI A] at h;exact h
theorem yM {m:Mo}{vs:bm Vr}{i:Ins}(h:gD m vs i=0):0<=i.f/\∃g,m.fs[i.f.toNat]?=qt g/\(i.args.length:cj)=g.c.par/\g.c.par<=(g.vs.length:cj)/\iP vs g.vs 0 i.args=qv/\ak vs i.d=g.ret:=by
 unfold gD at h
 by_cases q:i.f<0
 ·rw[cI q] at h;exact fL h (by decide)
 ·rw[cw q] at h
  cases u:m.fs[i.f.toNat]? with
  |none=>rw[u] at h;exact fL h (by simp)
  |some g=>
   rw[u] at h;simp only at h
   by_cases v:(i.args.length:cj)≠g.c.par\/(g.vs.length:cj)<g.c.par
   ·rw[cI v] at h;exact fL h (by decide)
   ·rw[cw v] at h
    by_cases o:iP vs g.vs 0 i.args=qS
    ·rw[cI o] at h;exact fL h (by decide)
    ·rw[cw o] at h
     have y:=tu (by decide) h;exact⟨by omega,g,rfl,by omega,by omega,by simpa using o,by simpa using y⟩
abbrev Nd:=cj×cj×cj
abbrev Th:=cj×Nd×Bool
def aQ (f v:cj):Nd:=(f,v,-1)
def kN (f:cj):Nd:=(f,-1,-1)
def kP (x k:cj):Nd:=(-1,x,k)
inductive Lf (Bs:bm (Nd×cd)) (E:bm (Nd×Nd)) (Ts:bm (Nd×Th)):Nd->cd->Prop
 |base {n:Nd} {x:cd}:(n,x)∈Bs->Lf Bs E Ts n x
 |edge {a b:Nd} {x:cd}:(a,b)∈E->Lf Bs E Ts a x->Lf Bs E Ts b x
 |out {a d:Nd} {k:cj} {x y:cd}:(a,(k,d,qS))∈Ts->Lf Bs E Ts a x->Lf Bs E Ts (kP x k) y->Lf Bs E Ts d y
 |into {a b:Nd} {k:cj} {x y:cd}:(a,(k,b,qv))∈Ts->Lf Bs E Ts a x->Lf Bs E Ts b y->Lf Bs E Ts (kP x k) y
theorem Lf.mono {o q:bm (Nd×cd)}{u v:bm (Nd×Nd)}{y A:bm (Nd×Th)}(G:∀p∈o,p∈q)(J:∀p∈u,p∈v)(D:∀p∈y,p∈A){n:Nd}{x:cd}(h:Lf o u y n x):Lf q v A n x:=by
 induction h with
 |base h=>exact .base (G _ h)
 |edge h _ ih=>exact .edge (J _ h) ih
 |out h _ _ d f=>exact .out (D _ h) d f
 |into h _ _ d f=>exact .into (D _ h) d f
def bJ (x:cd)(t:Th):Nd×Nd:=if t.2.2=qv then(t.2.1,kP x t.1) else(kP x t.1,t.2.1)
theorem zA {Bs:bm (Nd×cd)}{E:bm (Nd×Nd)}{Ts:bm (Nd×Th)}{n:Nd}{t:Th}{x y:cd}(d:(n,t)∈Ts)(f:Lf Bs E Ts n x)(h:Lf Bs E Ts (bJ x t).1 y):Lf Bs E Ts (bJ x t).2 y:=by
 obtain⟨k,o,b⟩:=t;cases b with
 |true=>exact .into d f h
 |false=>exact .out d f h
abbrev XI:=cj×cj×Ins
def gG (f g:cj):cd->bm cj->bm (Nd×Nd)
 |_,[]=>[]
 |n,a::r=>(aQ f a,aQ g (n:cj))::gG f g (n+1) r
def kQ (f:cj)(i:Ins):bm (Nd×Nd):=
 if i.op=9 then[(aQ f i.a,aQ f i.d)] else if i.op=15 then gG f i.f 0 i.args++[(kN i.f,aQ f i.d)] else if i.op=18 then[(aQ f i.a,kN f)] else[]
def kR (f:cj)(i:Ins):bm (Nd×Th):=
 if i.op=10 then[(aQ f i.a,(i.f,aQ f i.d,qS))] else if i.op=11 then[(aQ f i.a,(i.f,aQ f i.b,qv))] else[]
def lK (f:cj)(i:Ins)(c:cd):bm (Nd×cd):=if i.op=12 then[(aQ f i.d,c)] else[]
def j3 (f k:cj)(i:Ins):bm (cj×cj):=if i.op=12 then[(f,k)] else[]
def aF (l:bm XI):bm (cj×cj):=l.flatMap λx=>j3 x.1 x.2.1 x.2.2
def aR (l:bm XI):bm (Nd×Nd):=l.flatMap λx=>kQ x.1 x.2.2
def dN (l:bm XI):bm (Nd×Th):=l.flatMap λx=>kR x.1 x.2.2
def aL:cd->bm XI->bm (Nd×cd)
 |_,[]=>[]
 |c,x::r=>lK x.1 x.2.2 c++aL (c+(j3 x.1 x.2.1 x.2.2).length) r
theorem pX {x:XI}:∀(l:bm XI)(c:cd),aL c (l++[x])=aL c l++lK x.1 x.2.2 (c+(aF l).length)
 |[],c=>by simp[aL,aF]
 |y::r,c=>by
  rw[gE];unfold aL;rw[pX r,eE];congr 3;unfold aF;rw[dp,co];omega
def dX (f:cj):cd->bm Ins->bm XI
 |_,[]=>[]
 |k,i::r=>(f,(k:cj),i)::dX f (k+1) r
def eZ:cd->bm Fn->bm XI
 |_,[]=>[]
 |f,g::r=>dX (f:cj) 0 g.c.ins++eZ (f+1) r
def Mo.xi (m:Mo):bm XI:=eZ 0 m.fs
theorem pY {f:cj}{i:Ins}:∀(l:bm Ins)(k:cd),dX f k (l++[i])=dX f k l++[(f,((k+l.length:cd):cj),i)]
 |[],k=>by simp[dX]
 |x::r,k=>by
  rw[gE];unfold dX;rw[pY r (k+1),eI,show k+1+r.length=k+(r.length+1) by omega];rfl
theorem nD {g:Fn}:∀(l:bm Fn)(f:cd),eZ f (l++[g])=eZ f l++dX ((f+l.length:cd):cj) 0 g.c.ins
 |[],f=>by simp[eZ]
 |x::r,f=>by
  rw[gE];unfold eZ;rw[nD r (f+1),eE,eI,show f+1+r.length=f+(r.length+1) by omega]
theorem kH {f:cj}:∀(l:bm Ins)(k:cd),(dX f k l).length=l.length
 |[],_=>rfl
 |_::r,k=>by unfold dX;rw[eI,eI,kH r]
structure PS where
 St:bm (cj×cj)
 H:bm (Nd×cd)
 FL:bm (Nd×Nd)
 GL:bm (Nd×Th)
 td:bm (Nd×cd)
def PS.add (s:PS)(n:Nd)(x:cd):PS:=if (n,x)∈s.H then s else{s with H:=s.H++[(n,x)],td:=s.td++[(n,x)]}
def PS.addL (s:PS)(n:Nd)(l:bm cd):PS:=l.foldl (λs x=>s.add n x) s
def BQ (a b:Nd)(s s':PS):Prop:=((a,b)∈s.FL/\s'=s)\/((a,b)∉s.FL/\∃l:bm cd,(∀x,x∈l↔(a,x)∈s.H)/\s'=({s with FL:=s.FL++[(a,b)]}:PS).addL b l)
def nE:bm (Nd×Nd)->PS->PS->Prop
 |[],s,s'=>s'=s
 |e::r,s,s'=>∃s1,BQ e.1 e.2 s s1/\nE r s1 s'
def PS.start (s:PS)(f k:cj)(i:Ins):PS:=(lK f i s.St.length).foldl (λs p=>s.add p.1 p.2) {s with St:=s.St++j3 f k i,GL:=s.GL++kR f i}
def Dw (f k:cj)(i:Ins)(s s':PS):Prop:=nE (kQ f i) (s.start f k i) s'
theorem nE.snoc {a b:Nd}{s1 d:PS}(f:BQ a b s1 d):∀{l:bm (Nd×Nd)}{s:PS},nE l s s1->nE (l++[(a,b)]) s d
 |[],s,h=>by
  obtain rfl:s1=s:=h;exact⟨d,f,rfl⟩
 |e::r,s,⟨t,o,q⟩=>⟨t,o,nE.snoc f q⟩
theorem vw {s:PS}{n:Nd}{x:cd}:(n,x)∈(s.add n x).H:=by
 unfold PS.add
 by_cases h:(n,x)∈s.H
 ·rw[cI h];exact h
 ·rw[cw h];simp
theorem kg {s:PS}{n:Nd}{x:cd}:(s.add n x).St=s.St/\(s.add n x).FL=s.FL/\(s.add n x).GL=s.GL/\
  ∃d,(s.add n x).H=s.H++d/\(s.add n x).td=s.td++d/\d.Nodup/\(∀p∈d,p∉s.H/\p.1=n/\p.2=x):=by
 unfold PS.add
 by_cases h:(n,x)∈s.H
 ·rw[cI h];exact⟨rfl,rfl,rfl,[],by simp,by simp,by simp,by simp⟩
 ·rw[cw h]
  exact⟨rfl,rfl,rfl,[(n,x)],rfl,rfl,by simp,λp f=>by rw[cA.1 f];exact⟨h,rfl,rfl⟩⟩
theorem jm {n:Nd}:∀(l:bm cd)(s:PS),(s.addL n l).St=s.St/\(s.addL n l).FL=s.FL/\(s.addL n l).GL=s.GL/\
  (∃d,(s.addL n l).H=s.H++d/\(s.addL n l).td=s.td++d/\d.Nodup/\∀p∈d,p∉s.H/\p.1=n/\p.2∈l)/\∀x∈l,(n,x)∈(s.addL n l).H
 |[],s=>⟨rfl,rfl,rfl,⟨[],by simp[PS.addL],by simp[PS.addL],by simp,by simp⟩,by simp⟩
 |x::r,s=>by
  obtain⟨G,J,K,d1,o,R,a6,u⟩:=kg (s:=s) (n:=n) (x:=x);obtain⟨b1,b2,b3,⟨d2,D,b5,b6,f⟩,b8⟩:=jm (n:=n) r (s.add n x);have e:s.addL n (x::r)=(s.add n x).addL n r:=rfl;rw[e];refine⟨b1.trans G,b2.trans J,b3.trans K,⟨d1++d2,by rw[D,o,eE],by rw[b5,R,eE], ?_,λp v=> ?_⟩,λy A=> ?_⟩
  ·rw[iz]
   exact⟨a6,b6,λp v q hq e=>(f q hq).1 (by rw[o,<-e];simp[v])⟩
  ·rcases cC.1 v with h|h
   ·exact⟨(u p h).1,(u p h).2.1,by rw[(u p h).2.2];simp⟩
   ·refine⟨λh'=>(f p h).1 (by rw[o];simp[h']),(f p h).2.1,by simp[(f p h).2.2]⟩
  ·rcases fW.1 A with rfl|A
   ·rw[D];exact ct _ vw
   ·exact b8 y A
structure J1 (l:bm XI)(s:PS):Prop where
 st:s.St=aF l
 gl:s.GL=dN l
 fl:∀e,e∈s.FL↔e∈aR l
 flN:s.FL.Nodup
 hN:s.H.Nodup
 td:s.td=s.H
 snd:∀p∈s.H,Lf (aL 0 l) (aR l) (dN l) p.1 p.2
 bas:∀p∈aL 0 l,p∈s.H
theorem BR:J1 [] ⟨[],[],[],[],[]⟩:=⟨rfl,rfl,λe=>by simp[aR],by simp,by simp,rfl,by simp,by simp[aL]⟩
theorem dR {α:Type}{a d:bm α}(f:a.Nodup)(o:d.Nodup)(h:∀p∈d,p∉a):(a++d).Nodup:=by
 rw[iz];exact⟨f,o,λp u q v e=>h q v (by rw[<-e];exact u)⟩
structure DU (Bs:bm (Nd×cd))(E:bm (Nd×Nd))(Ts:bm (Nd×Th))(St:bm (cj×cj))(s:PS):Prop where
 st:s.St=St
 gl:s.GL=Ts
 fl:∀e,e∈s.FL↔e∈E
 flN:s.FL.Nodup
 hN:s.H.Nodup
 td:s.td=s.H
 snd:∀p∈s.H,Lf Bs E Ts p.1 p.2
 bas:∀p∈Bs,p∈s.H
theorem DU.flow {Bs:bm (Nd×cd)}{E:bm (Nd×Nd)}{Ts:bm (Nd×Th)}{St:bm (cj×cj)}{s s':PS}{a b:Nd}(h:DU Bs E Ts St s)(A:BQ a b s s'):DU Bs (E++[(a,b)]) Ts St s':=by
 have q:∀{n x},Lf Bs E Ts n x->Lf Bs (E++[(a,b)]) Ts n x:=λD=>D.mono (λ_ h=>h) (λ_ h=>ct _ h) (λ_ h=>h);rcases A with⟨u,rfl⟩|⟨u,l,G,rfl⟩
 ·exact⟨h.st,h.gl,λe=>by
   rw[h.fl e,cC,cA];exact⟨.inl,λJ=>J.elim id (λK=>by rw[K];exact(h.fl _).1 u)⟩,h.flN,h.hN,h.td,λp f=>q (h.snd p f),h.bas⟩
 ·obtain⟨R,v,b3,⟨d,o,b5,b6,y⟩,b8⟩:=jm (n:=b) l ({s with FL:=s.FL++[(a,b)]}:PS)
  refine⟨R.trans h.st,b3.trans h.gl,λe=> ?_, ?_, ?_, ?_,λp f=> ?_,λp f=> ?_⟩
  ·rw[v,cC,cC,h.fl e]
  ·rw[v];exact dR h.flN (by simp) (λp f=>by rw[cA.1 f];exact u)
  ·rw[o];exact dR h.hN b6 (λp f=>(y p f).1)
  ·rw[o,b5];show s.td++d=s.H++d;rw[h.td]
  ·rw[o] at f
   rcases cC.1 f with f|f
   ·exact q (h.snd p f)
   ·obtain⟨_,q1,q2⟩:=y p f
    rw[q1];exact .edge (de _ (by simp)) (q (h.snd (a,p.2) ((G _).1 q2)))
  ·rw[o];exact ct _ (h.bas p f)
theorem DU.flows {Bs:bm (Nd×cd)}{Ts:bm (Nd×Th)}{St:bm (cj×cj)}:∀{l:bm (Nd×Nd)}{E:bm (Nd×Nd)}{s s':PS},DU Bs E Ts St s->nE l s s'->DU Bs (E++l) Ts St s'
 |[],E,s,s',h,d=>by
  obtain rfl:s'=s:=d;rw[kh];exact h
 |e::r,E,s,s',h,⟨s1,f,o⟩=>by
  have:=(h.flow f).flows o;rw[eE] at this;exact this
theorem J1.step {l:bm XI}{s s':PS}{f k:cj}{i:Ins}(h:J1 l s)(D:Dw f k i s s'):J1 (l++[(f,k,i)]) s':=by
 have G:aF (l++[(f,k,i)])=aF l++j3 f k i:=by simp[aF]
 have J:aR (l++[(f,k,i)])=aR l++kQ f i:=by simp[aR]
 have K:dN (l++[(f,k,i)])=dN l++kR f i:=by simp[dN]
 have R:aL 0 (l++[(f,k,i)])=aL 0 l++lK f i (aF l).length:=by rw[pX,cH]
 have hm:DU (aL 0 (l++[(f,k,i)])) (aR l) (dN (l++[(f,k,i)])) (aF (l++[(f,k,i)])) (s.start f k i):=by
  rw[G,K,R];have q:∀{n x},Lf (aL 0 l) (aR l) (dN l) n x->Lf (aL 0 l++lK f i (aF l).length) (aR l) (dN l++kR f i) n x:=λhl=>hl.mono (λ_ h=>ct _ h) (λ_ h=>h) (λ_ h=>ct _ h);unfold PS.start;rw[<-h.st,<-h.gl] at*;unfold lK at q⊢
  by_cases v:i.op=12
  ·rw[cI v]
   simp only[List.foldl_cons,List.foldl_nil];obtain⟨a1,y,a3,d,u,a5,a6,A⟩:=kg (s:=({s with St:=s.St++j3 f k i,GL:=s.GL++kR f i}:PS)) (n:=aQ f i.d) (x:=s.St.length);rw[cI v] at q;refine⟨a1,a3,λe=>by rw[y];exact h.fl e,by rw[y];exact h.flN, ?_, ?_,λp o=> ?_,λp o=> ?_⟩
   ·rw[u];exact dR h.hN a6 (λp o=>(A p o).1)
   ·rw[u,a5];show s.td++d=s.H++d;rw[h.td]
   ·rw[u] at o
    rcases cC.1 o with o|o
    ·exact q (by rw[h.gl];exact h.snd p o)
    ·obtain⟨_,q1,q2⟩:=A p o
     exact .base (de _ (by rw[cA];exact Prod.ext q1 q2))
   ·rcases cC.1 o with o|o
    ·rw[u];exact ct _ (h.bas p o)
    ·rw[cA.1 o];exact vw
  ·rw[cw v] at q⊢
   refine⟨rfl,rfl,h.fl,h.flN,h.hN,h.td,λp o=>q (by rw[h.gl];exact h.snd p o),λp o=>h.bas p (by simpa using o)⟩
 have:=hm.flows D;rw[<-J] at this;exact⟨this.st,this.gl,this.fl,this.flN,this.hN,this.td,this.snd,this.bas⟩
def PS.fl (s:PS)(n:Nd):bm Nd:=(s.FL.filter λe=>decide (e.1=n)).map mA
def PS.gl (s:PS)(n:Nd):bm Th:=(s.GL.filter λe=>decide (e.1=n)).map mA
theorem p9 {s:PS}{n b:Nd}:b∈s.fl n↔(n,b)∈s.FL:=by
 unfold PS.fl;rw[dd];constructor
 ·rintro⟨e,d,f⟩
  rw[m7,js] at d;have:e=(n,b):=Prod.ext d.2 f;rw[<-this];exact d.1
 ·intro h
  exact⟨(n,b),by rw[m7];exact⟨h,by simp⟩,rfl⟩
theorem BS {s:PS}{n:Nd}{t:Th}:t∈s.gl n↔(n,t)∈s.GL:=by
 unfold PS.gl;rw[dd];constructor
 ·rintro⟨e,d,f⟩
  rw[m7,js] at d;have:e=(n,t):=Prod.ext d.2 f;rw[<-this];exact d.1
 ·intro h
  exact⟨(n,t),by rw[m7];exact⟨h,by simp⟩,rfl⟩
structure J2 (Bs:bm (Nd×cd))(E:bm (Nd×Nd))(Ts:bm (Nd×Th))(St:bm (cj×cj))(n:Nd)(x:cd)(bs:bm Nd)(ts:bm Th)(s:PS):Prop where
 st:s.St=St
 gl:s.GL=Ts
 fle:∀e∈E,e∈s.FL
 flu:∀e∈s.FL,e∈E\/∃t∈Ts,∃y,Lf Bs E Ts t.1 y/\e=bJ y t.2
 flN:s.FL.Nodup
 hN:s.H.Nodup
 tdN:s.td.Nodup
 tds:∀p∈s.td,p∈s.H
 snd:∀p∈s.H,Lf Bs E Ts p.1 p.2
 bas:∀p∈Bs,p∈s.H
 c4:∀e∈s.FL,∀y,(e.1,y)∈s.H->(e.1,y)∈s.td\/(e.2,y)∈s.H\/(e.1=n/\y=x/\e.2∈bs)
 c5:∀t∈Ts,∀y,(t.1,y)∈s.H->(t.1,y)∈s.td\/bJ y t.2∈s.FL\/(t.1=n/\y=x/\t.2∈ts)
section
variable {Bs:bm (Nd×cd)}{E:bm (Nd×Nd)}{Ts:bm (Nd×Th)}{St:bm (cj×cj)}{n:Nd}{x:cd}{bs:bm Nd}{ts:bm Th}{s s':PS}
theorem J1.settled {l:bm XI}{s:PS}(h:J1 l s)(n:Nd)(x:cd):J2 (aL 0 l) (aR l) (dN l) (aF l) n x [] [] s:=
 ⟨h.st,h.gl,λe d=>(h.fl e).2 d,λe d=> .inl ((h.fl e).1 d),h.flN,h.hN,by rw[h.td];exact h.hN,λp o=>by rw[<-h.td];exact o,h.snd,h.bas,
  λe _ y f=> .inl (by rw[h.td];exact f),λt _ y f=> .inl (by rw[h.td];exact f)⟩
theorem J2.pop {D:Nd}{G:cd}{td:bm (Nd×cd)}(h:J2 Bs E Ts St D G [] [] s)(q:s.td=td++[(n,x)]):J2 Bs E Ts St n x (s.fl n) (s.gl n) {s with td:=td}:=by
 have hN:=h.tdN;rw[q] at hN;refine⟨h.st,h.gl,h.fle,h.flu,h.flN,h.hN,(iz.1 hN).1,λp J=>h.tds p (by rw[q];exact ct _ J),h.snd,h.bas,λe v y u=> ?_,λt A y u=> ?_⟩
 ·rcases h.c4 e v y u with d|d|⟨_,_,d⟩
  ·rw[q] at d
   rcases cC.1 d with f|f
   ·exact .inl f
   ·have:=cA.1 f
    have o:e.1=n:=eA Prod.fst this;exact .inr (.inr ⟨o,eA mA this,p9.2 (by rw[<-o];exact v)⟩)
  ·exact .inr (.inl d)
  ·exact fL d (by simp)
 ·rcases h.c5 t A y u with d|d|⟨_,_,d⟩
  ·rw[q] at d
   rcases cC.1 d with f|f
   ·exact .inl f
   ·have:=cA.1 f
    have o:t.1=n:=eA Prod.fst this;exact .inr (.inr ⟨o,eA mA this,BS.2 (by rw[<-o,h.gl];exact A)⟩)
  ·exact .inr (.inl d)
  ·exact fL d (by simp)
theorem J2.more {d:bm (Nd×cd)}(h:J2 Bs E Ts St n x bs ts s)(K:s'.St=s.St)(v:s'.FL=s.FL)(R:s'.GL=s.GL)(u:s'.H=s.H++d)(A:s'.td=s.td++d)(D:d.Nodup)(G:∀p∈d,p∉s.H)(h8:∀p∈d,Lf Bs E Ts p.1 p.2):J2 Bs E Ts St n x bs ts s':=by
 refine⟨K.trans h.st,R.trans h.gl,by rw[v];exact h.fle,by rw[v];exact h.flu,by rw[v];exact h.flN,by rw[u];exact dR h.hN D G, ?_,λp o=> ?_,λp o=> ?_,λp o=>by rw[u];exact ct _ (h.bas p o),λe J y f=> ?_,λt ht y f=> ?_⟩
 ·rw[A];exact dR h.tdN D (λp o hq=>G p o (h.tds p hq))
 ·rw[A] at o
  rw[u];exact(cC.1 o).elim (λq=>ct _ (h.tds p q)) (λq=>de _ q)
 ·rw[u] at o
  exact(cC.1 o).elim (h.snd p) (h8 p)
 ·rw[v] at J
  rw[u] at f⊢;rw[A];rcases cC.1 f with f|f
  ·rcases h.c4 e J y f with q|q|q
   ·exact .inl (ct _ q)
   ·exact .inr (.inl (ct _ q))
   ·exact .inr (.inr q)
  ·exact .inl (de _ f)
 ·rw[u] at f
  rw[v,A];rcases cC.1 f with f|f
  ·rcases h.c5 t ht y f with q|q|q
   ·exact .inl (ct _ q)
   ·exact .inr (.inl q)
   ·exact .inr (.inr q)
  ·exact .inl (de _ f)
theorem J2.add {b:Nd}(h:J2 Bs E Ts St n x (b::bs) ts s)(G:(n,x)∈s.H)(v:(n,b)∈s.FL):J2 Bs E Ts St n x bs ts (s.add b x):=by
 obtain⟨R,a2,a3,d,a4,a5,a6,A⟩:=kg (s:=s) (n:=b) (x:=x);have hl:Lf Bs E Ts b x:=by
  rcases h.flu _ v with D|⟨t,D,y,h2,J⟩
  ·exact .edge D (h.snd _ G)
  ·have e1:(bJ y t.2).1=n:=by rw[<-J]
   have e2:(bJ y t.2).2=b:=by rw[<-J]
   rw[<-e2];exact zA (n:=t.1) (t:=t.2) D h2 (by rw[e1];exact h.snd _ G)
 have f:=h.more R a2 a3 a4 a5 a6 (λp u=>(A p u).1) (λp u=>by rw[(A p u).2.1,(A p u).2.2];exact hl);refine⟨f.st,f.gl,f.fle,f.flu,f.flN,f.hN,f.tdN,f.tds,f.snd,f.bas,λe v y hy=> ?_,f.c5⟩;rcases f.c4 e v y hy with q|q|⟨q1,K,o⟩
 ·exact .inl q
 ·exact .inr (.inl q)
 ·rcases fW.1 o with o|o
  ·exact .inr (.inl (by rw[o,K];exact vw))
  ·exact .inr (.inr ⟨q1,K,o⟩)
theorem J2.flow {t:Th}(h:J2 Bs E Ts St n x [] (t::ts) s)(hx:(n,x)∈s.H)(ht:(n,t)∈s.GL)(hf:BQ (bJ x t).1 (bJ x t).2 s s'):J2 Bs E Ts St n x [] ts s':=by
 have hT:(n,t)∈Ts:=by rw[<-h.gl];exact ht
 have rl:=h.snd _ hx;have rm:∀y,Lf Bs E Ts (bJ x t).1 y->Lf Bs E Ts (bJ x t).2 y:=λy f=>zA hT rl f;rcases hf with⟨h1,rfl⟩|⟨h1,l,h2,rfl⟩
 ·refine⟨h.st,h.gl,h.fle,h.flu,h.flN,h.hN,h.tdN,h.tds,h.snd,h.bas,h.c4,λu hu y f=> ?_⟩
  rcases h.c5 u hu y f with q|q|⟨q1,J,A⟩
  ·exact .inl q
  ·exact .inr (.inl q)
  ·rcases fW.1 A with A|A
   ·exact .inr (.inl (by rw[A,J];exact h1))
   ·exact .inr (.inr ⟨q1,J,A⟩)
 ·have h0:∀y∈l,Lf Bs E Ts (bJ x t).2 y:=λy f=>rm y (h.snd _ ((h2 y).1 f))
  obtain⟨b1,G,b3,⟨d,D,K,b6,R⟩,b8⟩:=jm (n:=(bJ x t).2) l ({s with FL:=s.FL++[((bJ x t).1,(bJ x t).2)]}:PS);obtain⟨s2,rn⟩:∃s2,({s with FL:=s.FL++[((bJ x t).1,(bJ x t).2)]}:PS).addL (bJ x t).2 l=s2:=⟨_,rfl⟩
  rw[rn] at b1 G b3 D K b8⊢;refine⟨b1.trans h.st,b3.trans h.gl,λe v=>by rw[G];exact ct _ (h.fle e v),λe v=> ?_,by rw[G];exact dR h.flN (by simp) (λp o=>by rw[cA.1 o];exact h1),by rw[D];exact dR h.hN b6 (λp o=>(R p o).1), ?_,λp o=> ?_,λp o=> ?_,λp o=>by rw[D];exact ct _ (h.bas p o),λe v y f=> ?_,λu hu y f=> ?_⟩
  ·rw[G] at v
   rcases cC.1 v with v|v
   ·exact h.flu e v
   ·exact .inr ⟨(n,t),hT,x,rl,by rw[cA.1 v]⟩
  ·rw[K];exact dR h.tdN b6 (λp o hq=>(R p o).1 (h.tds p hq))
  ·rw[K] at o
   rw[D];exact(cC.1 o).elim (λq=>ct _ (h.tds p q)) (λq=>de _ q)
  ·rw[D] at o
   rcases cC.1 o with o|o
   ·exact h.snd p o
   ·rw[(R p o).2.1];exact h0 _ (R p o).2.2
  ·rw[G] at v
   rw[D] at f⊢;rw[K];rcases cC.1 f with f|f
   ·rcases cC.1 v with v|v
    ·rcases h.c4 e v y f with q|q|⟨_,_,q⟩
     ·exact .inl (ct _ q)
     ·exact .inr (.inl (ct _ q))
     ·exact fL q (by simp)
    ·have ee:=cA.1 v
     refine .inr (.inl ?_);rw[<-D,ee];exact b8 y ((h2 y).2 (by rw[ee] at f;exact f))
   ·exact .inl (de _ f)
  ·rw[D] at f
   rw[G,K];rcases cC.1 f with f|f
   ·rcases h.c5 u hu y f with q|q|⟨q1,J,A⟩
    ·exact .inl (ct _ q)
    ·exact .inr (.inl (ct _ q))
    ·rcases fW.1 A with A|A
     ·exact .inr (.inl (de _ (by rw[A,J];simp)))
     ·exact .inr (.inr ⟨q1,J,A⟩)
   ·exact .inl (de _ f)
theorem J2.done (h:J2 Bs E Ts St n x [] [] s)(A:s.td=[]){m:Nd}{y:cd}:(m,y)∈s.H↔Lf Bs E Ts m y:=by
 have d4:∀a b:Nd,(a,b)∈s.FL->∀y,(a,y)∈s.H->(b,y)∈s.H:=λa b f y o=>by
  rcases h.c4 _ f y o with q|q|⟨_,_,q⟩
  ·rw[A] at q;exact fL q (by simp)
  ·exact q
  ·exact fL q (by simp)
 have d5:∀(a:Nd)(t:Th),(a,t)∈Ts->∀y,(a,y)∈s.H->bJ y t∈s.FL:=λa t d y o=>by
  rcases h.c5 _ d y o with q|q|⟨_,_,q⟩
  ·rw[A] at q;exact fL q (by simp)
  ·exact q
  ·exact fL q (by simp)
 refine⟨λD=>h.snd _ D,λG=> ?_⟩
 induction G with
 |base J=>exact h.bas _ J
 |edge f _ ih=>exact d4 _ _ (h.fle _ f) _ ih
 |out d _ _ u v=>exact d4 _ _ (d5 _ _ d _ u) _ v
 |into d _ _ u v=>exact d4 _ _ (d5 _ _ d _ u) _ v
end
theorem fO {α:Type}[DecidableEq α]:∀(a b:bm α),a.Nodup->(∀x∈a,x∈b)->a.length<=b.length
 |[],_,_,_=>cJ _
 |x::a,b,d,h=>by
  rw[oT] at d;have f:x∈b:=h x (by simp);have ih:=fO a (b.erase x) d.2 (λy o=>(List.mem_erase_of_ne (λe=>d.1 (by rw[<-e];exact o))).2 (h y (by simp[o])));rw[List.length_erase_of_mem f] at ih;have:=List.length_pos_of_mem f;simp;omega
theorem tC {f g:cj}:∀(l:bm cj)(n:cd),(gG f g n l).length=l.length
 |[],_=>rfl
 |_::r,n=>by unfold gG;rw[eI,eI,tC r]
theorem dS {α β:Type}{f:α->bm β}{k:cd}:∀(l:bm α),(∀x∈l,(f x).length<=k)->(l.flatMap f).length<=k*l.length
 |[],_=>by simp
 |x::r,h=>by
  rw[dp,co,eI,Nat.mul_succ];have:=h x (by simp);have:=dS r (λy d=>h y (by simp[d]));omega
theorem qa {l:bm XI}(o:∀x∈l,x.2.2.args.length<=40):(aR l).length<=41*l.length:=dS l λx q=>by
 unfold kQ;have:=o x q
 by_cases d:x.2.2.op=9
 ·rw[cI d];simp
 by_cases f:x.2.2.op=15
 ·rw[cw d,cI f,co,tC];simp;omega
 by_cases h:x.2.2.op=18
 ·rw[cw d,cw f,cI h];simp
 ·rw[cw d,cw f,cw h];simp
theorem qb {l:bm XI}:(dN l).length<=1*l.length:=dS l λx _=>by
 unfold kR
 by_cases d:x.2.2.op=10
 ·rw[cI d];simp
 by_cases f:x.2.2.op=11
 ·rw[cw d,cI f];simp
 ·rw[cw d,cw f];simp
theorem dU {l:bm XI}:(aF l).length<=1*l.length:=dS l λx _=>by
 unfold j3
 by_cases d:x.2.2.op=12
 ·rw[cI d];simp
 ·rw[cw d];simp
theorem xh {n:Nd}{x:cd}:∀(l:bm XI)(c:cd),(n,x)∈aL c l->c<=x/\x<c+(aF l).length
 |[],c,h=>by simp[aL] at h
 |y::r,c,h=>by
  unfold aL at h;unfold aF;rw[dp,co];rcases cC.1 h with h|h
  ·unfold lK at h
   unfold j3
   by_cases d:y.2.2.op=12
   ·rw[cI d,cA] at h
    rw[cI d];have:x=c:=eA mA h;simp;omega
   ·rw[cw d] at h;exact fL h (by simp)
  ·have:=xh r _ h
   unfold aF at this;omega
theorem tF:∀(l:bm XI)(c:cd),(aL c l).length<=l.length
 |[],_=>by simp[aL]
 |y::r,c=>by
  unfold aL;rw[co,eI];have:=tF r (c+(j3 y.1 y.2.1 y.2.2).length);unfold lK
  by_cases d:y.2.2.op=12
  ·rw[cI d];simp;omega
  ·rw[cw d];simp;omega
def vB (l:bm XI):bm Nd:=(aL 0 l).map Prod.fst++(aR l).map mA++(dN l).map (λt=>t.2.2.1)++(lR (aF l).length).flatMap λx:cd=>(dN l).map λt=>kP (x:cj) t.2.1
def vD (l:bm XI):bm (Nd×cd):=(vB l).flatMap λn=>(lR (aF l).length).map λx=>(n,x)
theorem fU {l:bm XI}{n:Nd}{x:cd}(h:Lf (aL 0 l) (aR l) (dN l) n x):x<(aF l).length:=by
 induction h with
 |base h=>have:=xh l 0 h;omega
 |edge _ _ ih=>exact ih
 |out _ _ _ _ ih=>exact ih
 |into _ _ _ _ ih=>exact ih
theorem C9 {l:bm XI}{n:Nd}{x:cd}(h:Lf (aL 0 l) (aR l) (dN l) n x):(n,x)∈vD l:=by
 have d:=fU h;unfold vD;rw[er];refine⟨n, ?_,by rw[dd];exact⟨x,by simpa using d,rfl⟩⟩;unfold vB;cases h with
 |base h=>exact ct _ (ct _ (ct _ (dd.2 ⟨_,h,rfl⟩)))
 |edge h _=>exact ct _ (ct _ (de _ (dd.2 ⟨_,h,rfl⟩)))
 |out h _ _=>exact ct _ (de _ (dd.2 ⟨_,h,rfl⟩))
 |into h f _=>exact de _ (er.2 ⟨_,by simpa using fU f,dd.2 ⟨_,h,rfl⟩⟩)
theorem yP {l:bm XI}(d:∀x∈l,x.2.2.args.length<=40)(f:l.length<=400):(vD l).length<=100000000:=by
 have h:=tF l 0;have o:=qa d;have q:=qb (l:=l);have u:=dU (l:=l);have v:(vB l).length<=200000:=by
  unfold vB;have y:((lR (aF l).length).flatMap λx:cd=>(dN l).map λt=>kP (x:cj) t.2.1).length<=400*400:=by
   refine cE (dS (k:=400) _ (λx _=>by rw[dj];omega)) (Nat.mul_le_mul_left _ (by rw[kA];omega))
  rw[co,co,co,dj,dj,dj];omega
 unfold vD;refine cE (dS (k:=400) _ (λn _=>by rw[dj,kA];omega)) ?_;omega
def yQ (l:bm XI):bm (Nd×Nd):=aR l++(lR (aF l).length).flatMap λx:cd=>(dN l).map λt=>bJ x t.2
theorem yR {l:bm XI}(d:∀x∈l,x.2.2.args.length<=40)(f:l.length<=400):(yQ l).length<=200000:=by
 have h:=qa d;have o:=qb (l:=l);have q:=dU (l:=l);have u:((lR (aF l).length).flatMap λx:cd=>(dN l).map λt=>bJ x t.2).length<=400*400:=by
  refine cE (dS (k:=400) _ (λx _=>by rw[dj];omega)) (Nat.mul_le_mul_left _ (by rw[kA];omega))
 unfold yQ;rw[co];omega
section
variable {l:bm XI}{St:bm (cj×cj)}{n:Nd}{x:cd}{bs:bm Nd}{ts:bm Th}{s:PS}
theorem J2.lens (h:J2 (aL 0 l) (aR l) (dN l) St n x bs ts s)(f:∀x∈l,x.2.2.args.length<=40)(o:l.length<=400):s.H.length<=100000000/\s.FL.length<=200000/\s.td.length<=s.H.length/\s.GL.length<=400:=by
 refine⟨cE (fO _ _ h.hN (λp q=>C9 (h.snd p q))) (yP f o),cE (fO _ _ h.flN (λe u=> ?_)) (yR f o),fO _ _ h.tdN h.tds, ?_⟩
 ·unfold yQ
  rcases h.flu e u with d|⟨t,d,y,v,A⟩
  ·exact ct _ d
  ·exact de _ (er.2 ⟨y,by simpa using fU v,dd.2 ⟨t,d,A.symm⟩⟩)
 ·rw[h.gl];have:=qb (l:=l);omega
end
section
open Go.RowKit Go.Maps Go.ChangeMaps
open Go.MapKept (Stamped stamped_empty stamped_push stamped_modify)
structure AA (P:i8)(kt:ge){α:Type}(ok:α->Prop)(kv:α->bw):Prop where
 K:Keyed P kt
 key:∀a,ok a->∃l,keyOf P kt (kv a)=qt l
 inj:∀a b,ok a->ok b->kv a=kv b->a=b
section
variable {P:i8}{kt t e:ge}{α:Type}{ok:α->Prop}{kv:α->bw}{z:bw}{w w':World}{B n:cd}{F:α->bw}
def dL (ok:α->Prop)(kv:α->bw)(z:bw)(w:World)(B n:cd)(F:α->bw):Prop:=
 ∃d f,w.heap[B]?=qt (.map d f)/\Stamped d f/\d.size<=n/\(∀x∈d.toList,∃a,ok a/\x.key=kv a)/\
  ∀a,ok a->(∀x∈d.toList,x.key=kv a->x.val=F a)/\((∀x∈d.toList,x.key≠kv a)->F a=z)
theorem dL.made (w:World):dL ok kv z (w.alloc (.map #[] 0)) w.heap.size 0 (λ_=>z):=
 ⟨#[],0,(MapKept.heap_alloc w _).1,stamped_empty 0,by simp,by simp,λa _=>⟨by simp,λ_=>rfl⟩⟩
theorem dL.heap (h:dL ok kv z w B n F)(d:w'.heap[B]?=w.heap[B]?):dL ok kv z w' B n F:=by
 obtain⟨f,c,o,q⟩:=h;exact⟨f,c,d.trans o,q⟩
theorem dL.lt (h:dL ok kv z w B n F):B<w.heap.size:=by
 obtain⟨f,c,d,_⟩:=h;exact(bb.1 d).1
theorem dL.ext {M:cd->Prop}(h:dL ok kv z w B n F)(d:Ext M w w')(f:¬M B):dL ok kv z w' B n F:=h.heap (d.block B h.lt f)
theorem dL.mono {d:cd}(h:dL ok kv z w B n F)(f:n<=d):dL ok kv z w B d F:=by
 obtain⟨o,c,q,u,v,y⟩:=h;exact⟨o,c,q,u,cE v f,y⟩
theorem dL.look (h:dL ok kv z w B n F)(k:AA P kt ok kv)(u:P.underlying t=qt (.map kt e))(y:(zeroValue e).run P w= .ok z w){a:α}(o:ok a):
  (fk t (.map (qt B)) (kv a) qS).run P w= .ok (F a) w:=by
 obtain⟨A,rl,v,hs,_,D,hF⟩:=h;obtain⟨l,q⟩:=k.key a o;rcases k.K.find w q A.toList (λx G=>by obtain⟨a',d,f⟩:=D x G;rw[f];exact k.key a' d) with⟨d,f⟩|⟨j,J,d,f,R⟩
 ·rw[(hF a o).2 f]
  simp[fk,eJ u,fh v,k.K.check w _ q,d,y,eV]
 ·rw[<-(hF a o).1 J (ce f) R]
  simp[fk,eJ u,fh v,k.K.check w _ q,d,eV]
open Classical in
noncomputable def xk (F:α->bw)(a:α)(v:bw):α->bw:=λx=>if x=a then v else F x
theorem iy (a:α)(v:bw):xk F a v a=v:=cI rfl
theorem ko {a b:α}(h:b≠a)(v:bw):xk F a v b=F b:=cw h
theorem fG {d:Obj}{f:cG lE}{c:cd}(h:w.heap[B]?=qt (.map f c)):Ext (·=B) w (ix w B d):=
 ⟨rfl,rfl,rfl,by simp[ix],λi _ o=>heap_setBlock_other h _ o⟩
theorem qc {d:cG lE}{K j:cd}{o:lE}(k:AA P kt ok kv)(hs:Stamped d K)(hn:d.size<=n)(hk:∀x∈d.toList,∃a,ok a/\x.key=kv a)
  (hF:∀a,ok a->(∀x∈d.toList,x.key=kv a->x.val=F a)/\((∀x∈d.toList,x.key≠kv a)->F a=z)){a:α}(R:ok a)(A:d[j]?=qt o)(h0:o.key=kv a)(v:bw)(f:lE->lE)(hf:f o={o with val:=v})(rN:∀x,(f x).born=x.born)
  (hb:w.heap[B]?=qt (.map (d.modify j f) K)):dL ok kv z w B n (xk F a v):=by
 have D:j<d.size:=(bb.1 A).1;have rl:(d.modify j f).toList=d.toList.set j {o with val:=v}:=by
  apply List.ext_getElem?;intro i;rw[m6,Array.getElem?_modify,List.getElem?_set]
  by_cases e:j=i
  ·subst e
   rw[cI rfl,cI rfl,A];simp[hf,D]
  ·rw[cw e,cw e,m6]
 have rx:d.toList.Pairwise (λx y=>x.key≠y.key):=((MapKept.stamped_iff d K).1 hs).2.2;have rB:∀x∈d.toList.set j {o with val:=v},x={o with val:=v}\/(x∈d.toList/\x.key≠kv a):=by
  intro x u;obtain⟨i,hi,q⟩:=List.getElem_of_mem u;rw[List.getElem_set] at q
  split at q
  ·exact .inl q.symm
  ·rename_i rm
   have rn:i<d.toList.length:=by simpa using hi
   refine .inr ⟨q▸List.getElem_mem rn,λe=>rm ?_⟩;have G:d.toList[j]'(by simpa using D)=o:=by
    have:=(bb.1 A).2;simpa using this
   refine eq λrS=> ?_;rcases Nat.lt_or_gt_of_ne rS with rr|rr
   ·exact fx.1 rx j i (by simpa using D) rn rr (by rw[G,h0,q,e])
   ·exact fx.1 rx i j rn (by simpa using D) rr (by rw[G,h0,q,e])
 have se:{o with val:=v}∈d.toList.set j {o with val:=v}:=List.mem_iff_getElem.2 ⟨j,by simpa using D,by simp⟩;refine⟨_,_,hb,stamped_modify hs j f (λe _=>rN e) (λe _ he=>by rw[A] at he;obtain rfl:=cX he;rw[hf]),by simpa using hn, ?_,λb J=>⟨?_, ?_⟩⟩
 ·rw[rl]
  intro x u;rcases rB x u with rfl|⟨h,_⟩
  ·exact⟨a,R,h0⟩
  ·exact hk x h
 ·rw[rl]
  intro x u rv;rcases rB x u with rfl|⟨h,rm⟩
  ·have:b=a:=k.inj b a J R (rv.symm.trans h0)
   subst this;rw[iy]
  ·rw[ko (λe=>rm (by rw[rv,e]))]
   exact(hF b J).1 x h rv
 ·rw[rl]
  intro rI;have rK:b≠a:=λe=>rI _ se (by rw[e];exact h0);rw[ko rK];refine(hF b J).2 λx u e=> ?_;obtain⟨i,hi,q⟩:=List.getElem_of_mem u
  by_cases rL:j=i
  ·subst rL
   have G:d.toList[j]=o:=by
    have:=(bb.1 A).2;simpa using this
   rw[G] at q;subst q;exact rK (k.inj b a J R (e.symm.trans h0))
  ·exact rI x (List.mem_iff_getElem.2 ⟨i,by simpa using hi,by rw[List.getElem_set,cw rL];exact q⟩) e
theorem tH {f:cG lE}{h:cd}(k:AA P kt ok kv)(D:Stamped f h)(R:f.size<=n)(G:∀x∈f.toList,∃a,ok a/\x.key=kv a)
  (hF:∀a,ok a->(∀x∈f.toList,x.key=kv a->x.val=F a)/\((∀x∈f.toList,x.key≠kv a)->F a=z)){a:α}(u:ok a)(y:∀x∈f.toList,x.key≠kv a)(v:bw)
  (J:w.heap[B]?=qt (.map (f.push ⟨kv a,v,h⟩) (h+1))):dL ok kv z w B (n+1) (xk F a v):=by
 refine⟨_,_,J,stamped_push D y,by simp;omega, ?_,λb o=>⟨?_, ?_⟩⟩
 ·intro x d
  simp only[Array.toList_push,cC,cA] at d;rcases d with d|rfl
  ·exact G x d
  ·exact⟨a,u,rfl⟩
 ·intro x d q
  simp only[Array.toList_push,cC,cA] at d;rcases d with d|rfl
  ·rw[ko (λe=>y x d (by rw[q,e]))]
   exact(hF b o).1 x d q
  ·have:a=b:=k.inj a b u o q
   subst this;rw[iy]
 ·intro A
  have K:b≠a:=λe=>A ⟨kv a,v,h⟩ (by simp) (by rw[e]);rw[ko K];exact(hF b o).2 λx d e=>A x (by simp[d]) e
theorem dL.put (h:dL ok kv z w B n F)(k:AA P kt ok kv)(R:P.underlying t=qt (.map kt e)){a:α}(y:ok a)(v:bw):
  ∃w',(my t (.map (qt B)) (kv a) v).run P w= .ok () w'/\dL ok kv z w' B (n+1) (xk F a v)/\Ext (·=B) w w':=by
 obtain⟨q,A,d,hs,hn,D,hF⟩:=h;obtain⟨l,u⟩:=k.key a y;rcases k.K.find w u q.toList (λx hx=>by obtain⟨a',f,o⟩:=D x hx;rw[o];exact k.key a' f) with⟨f,o⟩|⟨j,e0,f,o,G⟩
 ·refine⟨ix w B (.map (q.push ⟨kv a,v,A⟩) (A+1)), ?_,tH k hs hn D hF y o v (iu d _),fG d⟩
  simp[my,eJ R,fh d,k.K.check w qS u,f,gS _ d,eV,ix]
 ·have hj:q[j]?=qt e0:=by simpa using o
  refine⟨ix w B (.map (q.modify j (λJ=>{J with key:=kv a,val:=v})) A), ?_,(qc k hs hn D hF y hj G v (λJ=>{J with key:=kv a,val:=v}) (by rw[<-G]) (λ_=>rfl) (iu d _)).mono (gb _),fG d⟩;simp[my,eJ R,fh d,k.K.check w qS u,f,hj,G,k.K.stays w u,gS _ d,eV,ix]
theorem findIdx_born {d:cG lE}{j:cd}{h:lE}(v:(d.toList.map (·.born)).Nodup)(y:d[j]?=qt h):d.findIdx? (λe=>(e.born:cj)==(h.born:cj))=qt j:=by
 obtain⟨f,o⟩:=bb.1 y;rw[Array.findIdx?_eq_some_iff_getElem];refine⟨f,by rw[o];simp,λi q=> ?_⟩;have A:i<d.size:=Nat.lt_trans q f;have u:=fx.1 v i j (by simpa using A) (by simpa using f) q;simp only[List.getElem_map,Array.getElem_toList] at u;rw[o] at u;simp;omega
theorem xm {a:α}{v:bw}(h:F a=v):xk F a v=F:=by
 funext x
 by_cases e:x=a
 ·rw[e,iy,h]
 ·rw[ko e]
theorem dL.entry (h:dL ok kv z w B n F)(k:AA P kt ok kv)(ht:P.underlying t=qt (.map kt e))(hz:(zeroValue e).run P w= .ok z w){a:α}(J:ok a):
  ∃w' st,(qq t (.map (qt B)) (kv a)).run P w= .ok (.tuple #[F a,Z U st]) w'/\Ext (·=B) w w'/\dL ok kv z w' B (n+1) F/\
   ∀W v,W.heap[B]?=w'.heap[B]? ->∃W',(pp t (.map (qt B)) (Z U st) v).run P W= .ok () W'/\dL ok kv z W' B (n+1) (xk F a v)/\Ext (·=B) W W':=by
 obtain⟨q,d,u,hs,hn,hk,hF⟩:=h;obtain⟨l,hl⟩:=k.key a J;have store:∀(f:cG lE)(rl j:cd)(o:lE)(F1:α->bw),Stamped f rl->f.size<=n+1->(∀x∈f.toList,∃a,ok a/\x.key=kv a)->
   (∀a,ok a->(∀x∈f.toList,x.key=kv a->x.val=F1 a)/\((∀x∈f.toList,x.key≠kv a)->F1 a=z))->f[j]?=qt o->o.key=kv a->
   ∀W v,W.heap[B]?=qt (.map f rl)->∃W',(pp t (.map (qt B)) (Z U (o.born:cj)) v).run P W= .ok () W'/\dL ok kv z W' B (n+1) (xk F1 a v)/\Ext (·=B) W W':=by
  intro f rl j o F1 s1 n1 k1 f1 R h0 W v A;refine⟨ix W B (.map (f.modify j (λy=>{y with val:=v})) rl), ?_,qc k s1 n1 k1 f1 J R h0 v (λy=>{y with val:=v}) rfl (λ_=>rfl) (iu A _),fG A⟩;have rr:=findIdx_born ((MapKept.stamped_iff f rl).1 s1).2.1 R;simp[pp,fh A,asInt,asIntOf,rr,gS _ A,eV,ix]
 rcases k.K.find w hl q.toList (λx hx=>by obtain⟨a',h1,G⟩:=hk x hx;rw[G];exact k.key a' h1) with⟨h1,G⟩|⟨j,o,h1,G,h3⟩
 ·have rm:F a=z:=(hF a J).2 G
  have hm:=tH (w:=ix w B (.map (q.push ⟨kv a,z,d⟩) (d+1))) k hs hn hk hF J G z (iu u _);rw[xm rm] at hm;obtain⟨f,c1,rn,q1,q2,q3,q4⟩:=hm;have D:(ix w B (.map (q.push ⟨kv a,z,d⟩) (d+1))).heap[B]?=qt (.map (q.push ⟨kv a,z,d⟩) (d+1)):=iu u _;have e1:=rn.symm.trans D;simp only[dc,Obj.map.injEq] at e1;obtain⟨rfl,rfl⟩:=e1;refine⟨ix w B (.map (q.push ⟨kv a,z,d⟩) (d+1)),(d:cj), ?_,fG u,⟨_,_,D,q1,q2,q3,q4⟩,λW v A=> ?_⟩
  ·rw[rm]
   simp[qq,eJ ht,fh u,k.K.check w qS hl,h1,hz,gS _ u,eV,ix,goInt]
  ·exact store _ _ q.size ⟨kv a,z,d⟩ F q1 q2 q3 q4 (by simp) rfl W v (A.trans D)
 ·have R:q[j]?=qt o:=by simpa using G
  have rm:o.val=F a:=(hF a J).1 o (ce G) h3;have D:(ix w B (.map (q.modify j (λy=>{y with key:=kv a})) d)).heap[B]?=qt (.map (q.modify j (λy=>{y with key:=kv a})) d):=iu u _;have hm:=qc k hs hn hk hF J R h3 (F a) (λy=>{y with key:=kv a}) (by rw[<-rm,<-h3]) (λ_=>rfl) D;rw[xm rfl] at hm;obtain⟨f,c1,rn,q1,q2,q3,q4⟩:=hm;have e1:=rn.symm.trans D;simp only[dc,Obj.map.injEq] at e1;obtain⟨rfl,rfl⟩:=e1;refine⟨_,(o.born:cj), ?_,fG u,⟨_,_,D,q1,po q2,q3,q4⟩,λW v A=> ?_⟩
  ·simp[qq,eJ ht,fh u,k.K.check w qS hl,h1,R,h3,k.K.stays w hl,gS _ u,eV,ix,goInt,rm]
  ·exact store _ _ j {o with key:=kv a} F q1 (po q2) q3 q4 (by rw[Array.getElem?_modify,cI rfl,R];rfl) rfl W v (A.trans D)
end
end
def zB (P:i8)(gf:cd)(lb:cG bw){α:Type}(y:α->cG bw)(u S:bm α->Prop)(Rd:cd->Prop)(w:World):Prop:=
 ∀(l:cd)(J:bm α->(cd->Prop)->World->Prop)(o:bm α->World->Prop)(C:cd->Prop)(W:World),aq w.heap.size w W->
  (∀d C f h,J d C f->Ext (λk=>W.heap.size<=k/\¬C k) f h->J d C h)->
  (∀d C f,J d C f->∀k,C k->k<f.heap.size/\¬Rd k)->
  (∀d f h,o d f->Ext (λ_=>jp) f h->o d h)->
  (∀d x C f,J d C f->u (d++[x])->zi P (.func (.yield l) #[] #[]) (y x) f λv h=>
   (v= re qv/\∃q:cd->Prop,(∀k,q k->C k\/f.heap.size<=k)/\J (d++[x]) q h/\Ext C f h)\/(v= re qS/\o (d++[x]) h))->
  J [] C W->
  ft P gf (#[.func (.yield l) #[] #[]]++lb) W λe W'=>∃v,e= rk v/\((∃xs,S xs/\∃q,J xs q W')\/(∃d,u d/\o d W'))
theorem mK {P:i8}{α:Type}{g:Operand}{ps:cG Tmp}{assign body:Code}{Q:Exit->Act->World->Prop}{a:Act}{w:World}{gf:cd}{lb:cG bw}{fn:Func}{fb:Code}
  (hg:a.eval g= .func (.func gf) #[] lb)(hf:P.funcs[gf]?=qt fn)(sT:(fn.name=="runtime.NumGoroutine")=qS)(hb:fn.body=qt fb)
  {rS:α->cG bw}{sq S:bm α->Prop}{Rd:cd->Prop}{w0:World}(sX:zB P gf lb rS sq S Rd w0)(sy:aq w0.heap.size w0 w)(hRd:∀k,Rd k->k<w.heap.size)(sY:∀x,(rS x).size=ps.size)
  (I:bm α->(cd->Prop)->World->Prop)(Ix:Code->bm α->(cd->Prop)->World->Prop)
  (hI:∀d C W W',I d C W->Ext (λk=>w.heap.size<=k/\¬C k) W W'->I d C W')
  (hIC:∀d C W,I d C W->∀k,C k->k<W.heap.size/\¬Rd k)
  (hIx:∀c d C W W',Ix c d C W->Ext (λk=>w.heap.size<=k/\¬C k) W W'->Ix c d C W')
  (C0:cd->Prop)(h0:I [] C0 w)
  (hround:∀(l:cd)(d:bm α)(x:α)(C:cd->Prop)(W:World),w.heap.size<=l->I d C W->sq (d++[x])->
   assign.wpIn (fj.inRound l) 0 P (Exit.then (λa₁ W₁=>∃C₁:cd->Prop,(∀k,C₁ k->C k\/W.heap.size<=k)/\I d C₁ W₁/\Ext C W W₁/\
    ∀J,I d C₁ J->Ext (·=l) W₁ J->body.wpIn (fj.inRound l) 0 P (zk I Ix C₁ J (d++[x])) a₁ J) (λ_ _ _=>jp))
    {tmps:=(ps.zip (rS x)).foldl (λt (p,v)=>t.setIfInBounds p v) a.tmps,defers:=[]} W)
  (hdone:∀(D:cd)(xs:bm α)(C:cd->Prop)(W:World),w.heap.size<=D->¬C D->S xs->I xs C W->W.heap[D]?=qt (.deferred (qt []))->Q .normal {a with defers:=mark D::a.defers} W)
  (hstop:∀(D:cd)(c:Code)(d:bm α)(C:cd->Prop)(W:World),w.heap.size<=D->¬C D->sq d->Ix c d C W->W.heap[D]?=qt (.deferred (qt []))->c.wp P Q {a with defers:=mark D::a.defers} W):
  (Code.rangeFunc g ps assign body).wp P Q a w:=by
 have eg:∀args w,(callFunc gf args).run P w= .ok (.enter gf args) w:=enters_of hf sT hb;refine(nh (n:=0)).1 (wpIn_rangeFunc ?_);intro sB _;obtain⟨y,rm⟩:∃y:LoopState->du Code->Loop,y=λst pe=>{state:=st,pending:=pe,fn:=sB,tmps:=a.tmps,params:=ps,assign,body,defers:=w.heap.size}:=⟨_,rfl⟩
 obtain⟨W1,rN⟩:=zE ((w.alloc (.deferred (qt []))).alloc (.loop (y .ready qu)));obtain⟨D,hD⟩:=zE w.heap.size;obtain⟨l,hl⟩:=zE (w.heap.size+1);have tA:W1.heap.size=w.heap.size+2:=by rw[<-rN];simp
 have te:W1.heap[l]?=qt (.loop (y .ready qu)):=by
  rw[<-rN,<-hl];have:=World.alloc_heap_new (w.alloc (.deferred (qt []))) (.loop (y .ready qu));rwa [World.size_alloc] at this
 have tf:W1.heap[D]?=qt (.deferred (qt [])):=by
  rw[<-rN,<-hD];exact(bt _ _ _ (by simp)).trans (World.alloc_heap_new w _)
 have sE:Ext (λ_=>jp) w W1:=by rw[<-rN];exact((Ext.refl _ w).alloc _).alloc _
 have th:I [] C0 W1:=hI _ _ _ _ h0 (sE.mono (λ_ h=>h.elim));have ti:aq w0.heap.size w0 W1:=sy.trans ((sE.below (bp _) (λ_ h=>h.elim)).mono sy.size);refine⟨l,[mark D],W1,{target:= .fn (.func gf) lb,args:=#[.func (.yield l) #[] #[]]},W1,gf,#[.func (.yield l) #[] #[]]++lb,W1, ?_, ?_,λ_ _=>trivial, ?_,λh=>by simp[fj] at h, ?_⟩
 ·rw[<-rN,rm,<-hl,<-hD];exact run_enterLoop_outer _ _ _ _ _
 ·simp only[resolve,hg]
  simp[go_sem]
 ·simp[invoke,go_sem,eg]
 have tj:=sX l
  (λd C W=>∃o:cd->Prop,(∀k,C k↔o k\/k=l\/k=D)/\¬o l/\¬o D/\I d o W/\W.heap[l]?=qt (.loop (y .ready qu))/\W.heap[D]?=qt (.deferred (qt [])))
  (λd W=>∃(o:cd->Prop) (c:Code),¬o l/\¬o D/\Ix c d o W/\W.heap[l]?=qt (.loop (y .done (qt c)))/\W.heap[D]?=qt (.deferred (qt [])))
  (λk=>C0 k\/k=l\/k=D) W1 ti ?hst ?hC ?hstx ?hY ⟨C0,λ_=>Iff.rfl,λh=>by have:=(hIC _ _ _ h0 l h).1;omega,λh=>by have:=(hIC _ _ _ h0 D h).1;omega,th,te,tf⟩
 case hst=>
  rintro d C X Y ⟨o,A,n1,n2,K,h1,h2⟩ hx;refine⟨o,A,n1,n2,hI _ _ _ _ K (hx.mono λk G=>⟨by omega,λh=>G.2 ((A k).2 (.inl h))⟩),hx.heap h1 (λh=>h.2 ((A l).2 (by simp))),hx.heap h2 (λh=>h.2 ((A D).2 (by simp)))⟩
 case hC=>
  rintro d C X ⟨o,A,n1,n2,K,h1,h2⟩ k G;rcases(A k).1 G with h|rfl|rfl
  ·exact hIC _ _ _ K k h
  ·exact⟨(bb.1 h1).1,λh=>by have:=hRd _ h;omega⟩
  ·exact⟨(bb.1 h2).1,λh=>by have:=hRd _ h;omega⟩
 case hstx=>
  rintro d X Y ⟨o,c,n1,n2,K,h1,h2⟩ hx;exact⟨o,c,n1,n2,hIx _ _ _ _ _ K (hx.mono λ_ h=>h.elim),hx.heap h1 (λh=>h),hx.heap h2 (λh=>h)⟩
 case hY=>
  rintro d x C W ⟨o,A,n1,n2,K,rn,rK⟩ sr;have tB:l<W.heap.size:=(bb.1 rn).1;have tD:D<W.heap.size:=(bb.1 rK).1;have hy:=run_yield (P:=P) (args:=rS x) rn (by rw[rm];exact sY x);rw[rm] at hy;refine jO (m:=0) ⟨sB,_,assign,body,hy,roundIn_of_wpIn trivial (wpIn_mono (hround l d x o W (by omega) K sr) ?_)⟩;intro e a₁ W₁ hq;cases e with
  |normal=>
   obtain⟨C₁,se,tl,rL,tm⟩:=hq;have sL:=rL.heap rn n1;have tn:=rL.heap rK n2;have m1:¬C₁ l:=λh=>by rcases se l h with h|h;exact n1 h;omega
   have m2:¬C₁ D:=λh=>by rcases se D h with h|h;exact n2 h;omega
   refine⟨_,run_beginRound sL (by rw[rm]), ?_⟩;obtain⟨J,sx⟩:∃J,W₁.putObj l (.loop {y .ready qu with state:= .busy})=J:=⟨_,rfl⟩
   rw[sx];have rr:Ext (·=l) W₁ J:=by rw[<-sx];exact Ext.putObj _ _ _
   have tp:J.heap[l]?=qt (.loop {y .ready qu with state:= .busy}):=by rw[<-sx];exact World.putObj_heap_same (bb.1 sL).1
   have tr:J.heap[D]?=qt (.deferred (qt [])):=rr.heap tn (by omega);have tt:I d C₁ J:=hI _ _ _ _ tl (rr.mono λk G=>by subst G;exact⟨by omega,m1⟩);refine wpIn_mono (tm J tt rr) ?_;have tv:Ext C W W₁:=rL.mono λk h=>(A k).2 (.inl h);have sf:∀(q:du Code)(f:cd->Prop)(W₃:World),(∀k,f k->C₁ k\/J.heap.size<=k)->Ext C₁ J W₃->
     (Instr.endRound l q).run P W₃= .ok (re q.isNone) (W₃.putObj l (.loop (y (if q.isNone then .ready else .done) q)))/\
     (W₃.putObj l (.loop (y (if q.isNone then .ready else .done) q))).heap[l]?=qt (.loop (y (if q.isNone then .ready else .done) q))/\
     (W₃.putObj l (.loop (y (if q.isNone then .ready else .done) q))).heap[D]?=qt (.deferred (qt []))/\¬f l/\¬f D/\Ext C W (W₃.putObj l (.loop (y (if q.isNone then .ready else .done) q)))/\
     Ext (λk=>w.heap.size<=k/\¬f k) W₃ (W₃.putObj l (.loop (y (if q.isNone then .ready else .done) q)))/\(∀k,f k->o k\/W.heap.size<=k):=by
    intro q f W₃ R rl;have sR:=rl.heap tp m1;have tz:=rl.heap tr m2;have u:=run_endRound (P:=P) q sR;rw[rm] at u⊢;have q1:¬f l:=λh=>by rcases R l h with h|h;exact m1 h;have:=rr.size;have:=rL.size;omega
    have q2:¬f D:=λh=>by rcases R D h with h|h;exact m2 h;have:=rr.size;have:=rL.size;omega
    refine⟨u,World.putObj_heap_same (bb.1 sR).1,(World.putObj_heap_other (by omega)).trans tz,q1,q2, ?_,(Ext.putObj _ _ _).mono (λk G=>by subst G;exact⟨by omega,q1⟩), ?_⟩
    ·refine((tv.trans rr (λj hj=> .inl ((A j).2 (by simp[hj])))).trans rl (λj hj=> ?_)).trans (Ext.putObj _ _ _) (λj hj=> .inl ((A j).2 (by simp[hj])))
     rcases se j hj with h|h
     ·exact .inl ((A j).2 (.inl h))
     ·exact .inr h
    ·intro k G
     rcases R k G with h|h
     ·exact se k h
     ·right;have:=rr.size;have:=rL.size;omega
   intro e a3 W3 hp;cases e with
   |normal=>
    obtain⟨f,R,rv,rl⟩:=hp;obtain⟨u,rx,rB,q1,q2,sk,rI,sn⟩:=sf qu f W3 R rl;refine⟨_,_,u,_,rfl,.inl ⟨rfl,λk=>f k\/k=l\/k=D,λk G=> ?_,⟨f,λ_=>Iff.rfl,q1,q2,hI _ _ _ _ rv rI,rx,rB⟩,sk⟩⟩;rcases G with h|h|h
    ·rcases sn k h with h|h
     ·exact .inl ((A k).2 (.inl h))
     ·exact .inr h
    ·exact .inl ((A k).2 (by simp[h]))
    ·exact .inl ((A k).2 (by simp[h]))
   |ret=>
    obtain⟨f,R,rv,rl⟩:=hp;obtain⟨u,rx,rB,q1,q2,sk,rI,sn⟩:=sf (qt .ret) f W3 R rl;exact⟨_,_,u,_,rfl,.inr ⟨rfl,f,.ret,q1,q2,hIx _ _ _ _ _ rv rI,rx,rB⟩⟩
   |exit id=>
    obtain⟨f,R,rv,rl⟩:=hp;obtain⟨u,rx,rB,q1,q2,sk,rI,sn⟩:=sf (qt (.exit id)) f W3 R rl;exact⟨_,_,u,_,rfl,.inr ⟨rfl,f,.exit id,q1,q2,hIx _ _ _ _ _ rv rI,rx,rB⟩⟩
   |goto t=>
    obtain⟨f,R,rv,rl⟩:=hp;obtain⟨u,rx,rB,q1,q2,sk,rI,sn⟩:=sf (qt (.goto t)) f W3 R rl;exact⟨_,_,u,_,rfl,.inr ⟨rfl,f,.goto t,q1,q2,hIx _ _ _ _ _ rv rI,rx,rB⟩⟩
   |panic ch=>exact hp.elim
   |outgrown=>exact hp.elim
  |exit _=>exact hq.elim
  |goto _=>exact hq.elim
  |ret=>exact hq.elim
  |panic _=>exact hq.elim
  |outgrown=>exact hq.elim
 refine CallsIn.mono ((callsIn_wide (n:=0-1)).2 tj) ?_;rintro e W2 ⟨v,rfl,(⟨xs,hS,f,o,A,n1,n2,K,rn,rK⟩|⟨d,sr,o,c,n1,n2,K,rn,rK⟩)⟩
 ·have u:=run_endLoop (P:=P) rn (by rw[rm];simp)
  rw[rm] at u;refine⟨qu,_,u,hdone D xs o _ (by omega) n2 hS (hI _ _ _ _ K ((Ext.putObj _ _ _).mono λk G=>by subst G;exact⟨by omega,n1⟩)) ((World.putObj_heap_other (by omega)).trans rK)⟩
 ·have u:=run_endLoop (P:=P) rn (by rw[rm];simp)
  rw[rm] at u;refine⟨qt c,_,u,nh.2 (hstop D c d o _ (by omega) n2 sr (hIx _ _ _ _ _ K ((Ext.putObj _ _ _).mono λk G=>by subst G;exact⟨by omega,n1⟩)) ((World.putObj_heap_other (by omega)).trans rK))⟩
section
open Go.RowKit Go.Maps
theorem kI:Keyed ac 3:=int_keyed cP
theorem AB (w:World):(zeroValue 4).run ac w= .ok (re qS) w:=by kernel_rfl
structure En (D:DataW Unit)(S:bm cj):Prop where
 map:IsMap D
 at_:∀x:cj,D.atKey (.int .i64 x) (.lit (.bool qS))= .lit (.bool (decide (x∈S)))
 key:∀kl,qs D kl=qv->∃x,kl= .int .i64 x/\x∈S
 has:∀x∈S,qs D (.int .i64 x)=qv
def ja (w:World)(B n:cd)(S:bm cj):Prop:=∃D:DataW Unit,w.ownsMap ac 3 (kq ac 4) B n D/\En D S
theorem ja.made (w:World):ja (w.alloc (.map #[] 0)) w.heap.size 0 []:=
 ⟨.map [],World.ownsMap_made _ _ _ _,isMap_empty,λx=>by simp[DataW.atKey],λd h=>by simp[qs] at h,λx h=>by simp at h⟩
theorem ja.ext {w w':World}{B n:cd}{S:bm cj}{M:cd->Prop}(h:ja w B n S)(d:Ext M w w')(f:¬M B):ja w' B n S:=by
 obtain⟨D,⟨o,q,u,v⟩,y⟩:=h;exact⟨D,⟨o,q,d.heap u f,v⟩,y⟩
theorem ja.lt {w:World}{B n:cd}{S:bm cj}(h:ja w B n S):B<w.heap.size:=by
 obtain⟨D,d,f⟩:=h;exact d.lt
theorem jL {P:i8}{e:ge}(d:P.underlying e=qt .bool){v:bw}{z:DataW Unit×bm ml}(h:kq P e v=qt z):∃x,v= .bool x/\z=(.lit (.bool x),[]):=by
 unfold kq at h;rw[d] at h;cases v<;>simp at h;exact⟨_,rfl,h.symm⟩
theorem ja.look {w:World}{B n:cd}{S:bm cj}(h:ja w B n S){x:cj}(f: -9223372036854775808<=x/\x<=9223372036854775807):
  (fk 162 (.map (qt B)) (.int .i64 x) qS).run ac w= .ok (.bool (decide (x∈S))) w:=by
 obtain⟨D,o,q⟩:=h;obtain⟨v,G,u,A⟩:=o.lookup kI mb (AB w) (oS fX qS) (keyOf_int_mk cP (kj f));obtain⟨y,rfl,d⟩:=jL fX A;rw[q.at_ x] at d;simp only[lz,DataW.lit.injEq,Lit.bool.injEq] at d;rw[u,<-d.1]
theorem ja.add {w:World}{B n:cd}{S:bm cj}(h:ja w B n S){x:cj}(q: -9223372036854775808<=x/\x<=9223372036854775807)(hn:n<=1000000000):
  ∃w',(my 162 (.map (qt B)) (.int .i64 x) (.bool qv)).run ac w= .ok () w'/\ja w' B (n+1) (x::S)/\Ext (·=B) w w':=by
 obtain⟨D,u,d⟩:=h;obtain⟨w',v,A,G⟩:=u.update kI mb (by unfold dl;omega) (keyOf_int_mk cP (kj q)) (oS fX qv);refine⟨w',v,⟨_,A,d.map.put _ _,λy=> ?_,λo f=> ?_,λy J=> ?_⟩,Ext.of_grown G (λk f=> .inl (by simpa using f.symm))⟩
 ·by_cases e:y=x
  ·subst e
   rw[atKey_put_same d.map (by simp[nx])];simp
  ·rw[atKey_put_other (by simpa using e),d.at_ y];simp[e]
 ·by_cases e:o= .int .i64 x
  ·exact⟨x,e,by simp⟩
  ·rw[has_put_other e] at f
   obtain⟨z,K,R⟩:=d.key o f;exact⟨z,K,m5 _ R⟩
 ·by_cases e:y=x
  ·subst e
   exact has_put_same d.map (by simp[nx]) _
  ·rw[has_put_other (by simpa using e)]
   rcases fW.1 J with h|h
   ·exact fL h e
   ·exact d.has y h
end
section
open Go.RowKit Go.Maps
theorem Da {W:World}{g:cd}{o:Obj}(h:W.heap[g]?=qt o):g<W.heap.size:=(bb.1 h).1
structure BK where
 b:Bool
def AC (w:World)(v:bw)(S:bm cj):Prop:=(v= .map qu/\S=[])\/∃b n,v= .map (qt b)/\ja w b n S
theorem AC.below {w w':World}{v:bw}{S:bm cj}(h:AC w v S)(d:aq w.heap.size w w'):AC w' v S:=by
 rcases h with h|⟨b,n,f,o⟩
 ·exact .inl h
 ·exact .inr ⟨b,n,f,o.ext (Ext.of_below_size (M:=λ_=>jp) d) (λh=>h)⟩
def DV (S d:bm cj):Prop:=d.Nodup/\∀x∈d,x∈S
def BU (S d:bm cj):Prop:=d.Nodup/\∀x,x∈d↔x∈S
def BV (x:cj):cG bw:=#[Z U x]
def EL (D:cd)(v:bw)(k:cd):Prop:=k=D\/v= .map (qt k)
theorem yS {P:i8}{w w':World}{H:Type}{kt:ge}{R:bw->du (DataW H×bm ml)}{b r n d:cd}{D:DataW H}{left:Lit->Bool}{M:cd->Prop}(h:w.ranges P kt R b r n D left d)(f:Ext M w w')(o:¬M b)(q:¬M r):w'.ranges P kt R b r n D left d:=by
 obtain⟨u,v,y,seen,c0,A,G,J,K,h5,h6⟩:=h;exact⟨u,v,y,seen,c0,f.heap A o,G,J,K,f.heap h5 q,h6⟩
theorem yU (w:World)(D:cd)(v:bw)(S:bm cj)(q:w.heap[D]?=qt (.cells #[v] 162 (0,0)))(A:AC w v S):
  zB ac 163 #[.pointer (qt ⟨D,0,qu⟩)] BV (DV S) (BU S) (EL D v) w:=by
 intro l J Jx C W rS hst sx hstx sy hJ;have sB:=zH sx;have se:=zH hst;have HM:=zH sy;have HJ:=zH hJ;have tv:=A.below rS;have c0:W.cell? ⟨D,0,qu⟩=qt v:=by rw[bh _ _ _ _ _ _ ((rS.block D (Da q)).trans q)];rfl
 clear hst sx hstx sy hJ q rS A;simp only[List.append_toArray,gE,ej];rcases tv with⟨rfl,rfl⟩|⟨N,n,rfl,K,sf,sE⟩
 ·have tz:ca (∃xs,BU [] xs/\∃u,J xs u (W.alloc (.mapIter qu 0 #[] 0))):=⟨[],⟨by simp,by simp⟩,C,se.out _ _ _ _ HJ.out (Ext.of_below_size ((an _ _).alloc (bp _) _))⟩
  have rv:=run_range_nilMap (P:=ac) W 162 3 4 mb;have ub:∀ty,(Instr.next (.pointer (qt ⟨W.heap.size,0,qu⟩)) qS ty).run ac (W.alloc (.mapIter qu 0 #[] 0))=_:=λty=>run_next_nilMap _ ty 0 0 #[];go_enter func163,ntmps163;go_wp2;refine wp_loop_rounds 1 ?_;rw[rounds_succ];go_wp2
  ((try simp only[cL,Exit.then]);(try rw[ii]);(first|refine da (eR rfl _ _ _) rfl ?_|refine j9 (eR rfl _ _ _) rfl ?_));exact⟨_,rfl,.inl tz.out⟩
 ·obtain⟨RI,sk⟩:=zE W.heap.size
  have tA:N<RI:=by rw[<-sk];exact sf.lt
  have tB:ca (∀(d:bm cj) f W1,J d f W1->¬f N):=λd f W1 R hc=>(sB.out d f W1 R N hc).2 (.inr rfl);have tD:ca (¬C RI):=λhc=>by have:=(sB.out _ _ _ HJ.out RI hc).1;omega
  have tE:=zH sk;have sL:=zH sE;have uc:=zH tA;clear sE;go_enter func163,ntmps163
  go_wp2_with (first|(at_range;refine wpList_range_own _ rfl _ _ rfl _ _ kI mb (kq ac 4) N n K rfl sf ?_;intro w0 sn sR sT)|go_in)
  go_frame
  rw[sk] at sn sT⊢;have tG:ca (w0.ranges ac 3 (kq ac 4) N RI n K (qs K) (Maps.size K)/\([]:bm cj).Nodup/\(∀z:cj,z∈([]:bm cj)↔z∈S/\qs K (.int .i64 z)=qS)/\J [] C w0/\¬C RI/\RI<w0.heap.size):=by
   refine⟨sn,by simp,λz=>⟨λh=>by simp at h,λh=> ?_⟩,se.out _ _ _ _ HJ.out (Ext.of_grown (M:=λk=>W.heap.size<=k/\¬C k) sR (λk hk=>by cases hk)),tD.out,by omega⟩;have:=sL.out.has z h.1;rw[this] at h;exact fL h.2 (by simp)
  clear sn sR sT sf c0
  go_loopw [3] (λ_ G=>∃(left:Lit->Bool) (rr:cd) (d:bm cj) (f:cd->Prop),G.ranges ac 3 (kq ac 4) N RI n K left rr/\d.Nodup/\(∀z:cj,z∈d↔z∈S/\left (.int .i64 z)=qS)/\J d f G/\¬f RI/\RI<G.heap.size) (λ_ G=>G.rangeLeft N RI)
  case atStart=>exact⟨_,_,[],C,tG.out⟩
  case round=>
   rename World=>G;obtain⟨left,rr,d,f,rv,rx,rl,R,rm,rI⟩:=hrel;have HI:=zH (And.intro rx (And.intro rl (And.intro R (And.intro rm rI))));clear rx rl R rm rI
   go_wp2_with (first|(at_next;refine wpList_next_ranges _ rfl _ rfl 3 kI (kq ac 4) (eC .i64) (λc:BK=>Value.bool c.b) (λkey kl rK=>by obtain⟨x,rfl,_⟩:=Maps.keyOf_int_inv cP rK;exact⟨x,rfl⟩) (λv y A=>by obtain⟨x,rfl,_⟩:=jL fX A;exact⟨⟨x⟩,rfl⟩) N RI n _ _ _ rfl rv ?_ ?_)|go_in)
   ·intro tM sX
    have HF:ca (∃xs,BU S xs/\∃u,J xs u G):=⟨d,⟨HI.out.1,λx=>(HI.out.2.1 x).trans ⟨λh=>h.1,λh=>⟨h,sX _⟩⟩⟩,f,HI.out.2.2.1⟩
    clear tM sX rv;go_wp2
    ((try simp only[cL,Exit.then]);(try rw[ii]);(first|refine da (eR rfl _ _ _) rfl ?_|refine j9 (eR rfl _ _ _) rfl ?_));exact⟨_,rfl,.inl HF.out⟩
   ·intro x c kl y1 y2 w1 sY rK te A tf th ti tj tP tl
    obtain⟨x',ex,rfl,tR⟩:=Maps.keyOf_int_inv cP rK;cases ex;obtain⟨rx,rl,R,rm,rI⟩:=HI.out;have sq:x∈S:=by
     obtain⟨x',e1,e2⟩:=sL.out.key _ (has_true_of_atKey tf);cases e1;exact e2
    have tm:x∉d:=λhk=>by have:=((rl x).1 hk).2;rw[te] at this;cases this
    have sr:J d f w1:=se.out _ _ _ _ R (Ext.of_grown (M:=λk=>W.heap.size<=k/\¬f k) tj (λk hk=> .inl (by cases hk;exact⟨by rw[tE.out];exact bp _,rm⟩)));have rL:DV S (d++[x]):=⟨by rw[iz];exact⟨rx,by simp,by intro a ha b hb;simp at hb;subst hb;rintro rfl;exact tm ha⟩,λy hy=>by
     rcases cC.1 hy with h|h
     ·exact((rl y).1 h).1
     ·rw[cA.1 h];exact sq⟩
    have tn:=zH (HM.out d x f w1 sr rL);unfold BV at tn;have tS:ca (∀(u:cd->Prop)(o:World),(∀k,u k->f k\/w1.heap.size<=k)->J (d++[x]) u o->Ext f w1 o->∃(left:Lit->Bool) (rr:cd) (d:bm cj) (f:cd->Prop),(o.ranges ac 3 (kq ac 4) N RI n K left rr/\rr=sY)/\d.Nodup/\(∀z:cj,z∈d↔z∈S/\left (.int .i64 z)=qS)/\J d f o/\¬f RI/\RI<o.heap.size):=λu o rN rn rB=>by
     refine⟨_,sY,d++[x],u,⟨yS th rB (tB.out _ _ _ sr) rm,rfl⟩,rL.1,λz=> ?_,rn,λh=> ?_,by have:=rB.size;omega⟩
     ·rw[cC,rl z,cA]
      constructor
      ·rintro(⟨q,h2⟩|rfl)
       ·exact⟨q,by rw[h2];rfl⟩
       ·exact⟨sq,by rw[WideAt.sameKey_self (by simp[nx])];simp⟩
      ·rintro⟨q,h2⟩
       by_cases e:left (.int .i64 z)=qv
       ·refine .inr ?_
        rw[e] at h2;simp only[Bool.true_and,Bool.not_eq_false'] at h2;have:=WideAt.sameKey_eq h2;cases this;rfl
       ·exact .inl ⟨q,by simpa using e⟩
     ·rcases rN RI h with h|h
      ·exact rm h
      ·omega
    have tp:G.rangeLeft N RI=rr:=rv.left_eq;have tr:=zH (And.intro tp ti);have tU:=zH rL;clear rK te A tf th tj tP tR rx rl R rm rI sq tm sr rL tp ti rv
    go_upto_region 3 with(fail)
    refine(nh (n:=0)).1 ?_;refine lB (aA rfl (by simp) (.func (.yield l) #[] #[]) (w':=w1) (by simp[go_sem]) ?_);simp only[cV,ap,bj,bk];refine aA rfl (by simp) (.int .i64 x) (w':=w1) (by simp[go_sem]) ?_;simp only[cV,ap,bj,bk];refine fe (fv:= .func (.yield l) #[] #[]) (args:=#[.int .i64 x]) rfl (.tmp 10) #[.tmp 11] _ rfl rfl (by simp[Act.eval]) tn.out ?_;intro v o A;simp only[cV,ap,bj,bk];rcases A with⟨rfl,u,rN,rn,rB⟩|⟨rfl,rn⟩
    ·refine aA rfl (by simp) (.bool qS) (w':=o) (by simp[go_sem]) ?_
     simp only[cV,ap,bj,bk];refine ip ?_;have HN:=zH (tS.out u o rN rn rB);clear rn rB rN tl;go_wp2;obtain⟨tW,ud,ua,C2,⟨q,rfl⟩,h2⟩:=HN.out;go_roundw
     case rel=>exact⟨tW,_,ua,C2,q,h2⟩
     case measure=>rw[q.left_eq,tr.out.1];exact tr.out.2
    ·refine aA rfl (by simp) (.bool qv) (w':=o) (by simp[go_sem]) ?_
     simp only[cV,ap,bj,bk];refine ip ?_;have HF:ca (∃tt,DV S tt/\Jx tt o):=⟨_,tU.out,rn⟩
     clear rn tl;go_wp2
     ((try simp only[cL,Exit.then]);(try rw[ii]);(first|refine da (eR rfl _ _ _) rfl ?_|refine j9 (eR rfl _ _ _) rfl ?_));exact⟨_,rfl,.inr HF.out⟩
theorem kr (w:World)(v:bw)(d:∃r,v= .map r):
  ft ac 123 #[v] w λe w'=>e= rk (.func (.func 163) #[] #[rb (qt ⟨w.heap.size,0,qu⟩)])/\w.alloc (rj #[v] 162)=w':=by
 obtain⟨r,rfl⟩:=d;have f:∀(fn:Go.Fn)(first cap:cG bw)(w:World),(Instr.makeFunc fn first cap).run ac w= .ok (.func fn first cap) w:=λ_ _ _ _=>rfl;go_enter func123,ntmps123;go_wp2;go_ret;exact⟨rfl,rfl⟩
end
section
open Go.Shelf Go.Proofs
def BX:Go.Shelf.Ren:=⟨λ|125=>202|128=>238|129=>239|189=>162|215=>259|216=>235|257=>201|294=>229|295=>230|296=>231|297=>232|298=>233|299=>234|300=>236|301=>237|328=>254|329=>255|330=>256|331=>257|332=>258|343=>271|n=>n,λ|0=>0|3=>3|4=>4|5=>5|9=>9|28=>35|46=>299|51=>327|53=>245|131=>172|182=>320|183=>321|218=>337|222=>341|228=>349|229=>350|n=>n,λ|n=>n⟩
theorem tJ:Go.Proofs.Lays.n189 ac BX:={
 mixed:=by kernel_rfl
 f125:=func202.trans (eA qt (by kernel_rfl))
 f128:=func238.trans (eA qt (by kernel_rfl))
 f129:=func239.trans (eA qt (by kernel_rfl))
 f189:=func162.trans (eA qt (by kernel_rfl))
 f215:=func259.trans (eA qt (by kernel_rfl))
 f216:=func235.trans (eA qt (by kernel_rfl))
 f257:=func201.trans (eA qt (by kernel_rfl))
 f294:=func229.trans (eA qt (by kernel_rfl))
 f295:=func230.trans (eA qt (by kernel_rfl))
 f296:=func231.trans (eA qt (by kernel_rfl))
 f297:=func232.trans (eA qt (by kernel_rfl))
 f298:=func233.trans (eA qt (by kernel_rfl))
 f299:=func234.trans (eA qt (by kernel_rfl))
 f300:=func236.trans (eA qt (by kernel_rfl))
 f301:=func237.trans (eA qt (by kernel_rfl))
 f328:=func254.trans (eA qt (by kernel_rfl))
 f329:=func255.trans (eA qt (by kernel_rfl))
 f330:=func256.trans (eA qt (by kernel_rfl))
 f331:=func257.trans (eA qt (by kernel_rfl))
 f332:=func258.trans (eA qt (by kernel_rfl))
 f343:=func271.trans (eA qt (by kernel_rfl))
 t0:=underlying0
 a0:=Tryz.isAgg0
 z0:=Tryz.sizeOf0
 v0:=Tryz.zeroValue0
 t3:=cP
 a3:=Tryz.isAgg3
 z3:=Tryz.sizeOf3
 v3:=Tryz.zeroValue3
 t4:=fX
 a4:=Tryz.isAgg4
 z4:=Tryz.sizeOf4
 v4:=Tryz.zeroValue4
 t5:=underlying5
 a5:=Tryz.isAgg5
 z5:=Tryz.sizeOf5
 v5:=Tryz.zeroValue5
 t9:=fY
 a9:=Tryz.isAgg9
 z9:=Tryz.sizeOf9
 v9:=Tryz.zeroValue9
 t28:=gt
 a28:=Tryz.isAgg35
 z28:=Tryz.sizeOf35
 v28:=Tryz.zeroValue35
 t46:=underlying299
 a46:=Tryz.isAgg299
 z46:=Tryz.sizeOf299
 v46:=Tryz.zeroValue299
 t51:=underlying327
 a51:=Tryz.isAgg327
 z51:=Tryz.sizeOf327
 v51:=Tryz.zeroValue327
 t53:=underlying245
 a53:=Tryz.isAgg245
 z53:=Tryz.sizeOf245
 v53:=Tryz.zeroValue245
 t131:=underlying172
 a131:=Tryz.isAgg172
 z131:=Tryz.sizeOf172
 v131:=Tryz.zeroValue172
 t182:=underlying320
 a182:=Tryz.isAgg320
 z182:=Tryz.sizeOf320
 v182:=Tryz.zeroValue320
 t183:=underlying321
 a183:=Tryz.isAgg321
 z183:=Tryz.sizeOf321
 v183:=Tryz.zeroValue321
 t218:=underlying337
 a218:=Tryz.isAgg337
 z218:=Tryz.sizeOf337
 v218:=Tryz.zeroValue337
 t222:=underlying341
 a222:=Tryz.isAgg341
 z222:=Tryz.sizeOf341
 v222:=Tryz.zeroValue341
 t228:=underlying349
 a228:=Tryz.isAgg349
 z228:=Tryz.sizeOf349
 v228:=Tryz.zeroValue349
 t229:=underlying350
 a229:=Tryz.isAgg350
 z229:=Tryz.sizeOf350
 v229:=Tryz.zeroValue350}
open Go.RowKit Go.Lib Go.Sort in
theorem AJ (d h cap:cd)(f:bm cj)(w:World)(o:Holds (eC .i64) w d h f.toArray)(q:d<w.heap.size)(u:f.length<4611686018427387904):
  ft ac 162 #[ra (qt ⟨d,h,qu⟩) f.length cap] w λe w'=>
   e= rk (.tuple #[])/\∃n os,w'=grow (putRow (eC .i64) (Sort.ahead w n) d h (f.mergeSort λx y=>decide (x<=y)).toArray) os:=Any.slices_Sort_int tJ d h cap f w o q u
end
section
open Go.RowKit Go.Maps
private theorem pQ (p:Tmp)(v:bw)(t:cG bw):((#[p]:cG Tmp).zip #[v]).foldl (λt (p,v)=>t.setIfInBounds p v) t=t.setIfInBounds p v:=by simp
theorem qd {P:i8}{n:cd}{ops:cG ij}{rest:bm ij}{o:ij}{a:Act}{w w':World}{Q:Exit->Act->World->Prop}{r:du cd}(d:o.guard=qu)(f:∀c,o.op≠ .defer c)
  (q:(execOp a.eval o).run P w= .ok .skip w')(h:pZ {fj with round:=r} n P ops Q rest (a.put o.dst undef) w'):pZ {fj with round:=r} n P ops Q (o::rest) a w:=
 wpListIn_plain d λ_ u=>by
  refine⟨λ_ _=>trivial, ?_⟩;rw[Oper.semAt_eq _ _ _ f,q];exact u _ _ h
theorem mM {w w':World}{B n cap:cd}{d:du oA}{xs:bm cj}{M:cd->Prop}(h:aZ w B (ra d n cap) xs)(o:Ext M w w')(q:∀k,(bx d n cap).ownBlock=qt k->¬M k):aZ w' B (ra d n cap) xs:=by
 refine⟨h.1, ?_⟩;rcases h.2 with u|⟨g,v,cur,f,y,A,D⟩
 ·exact .inl u
 ·exact .inr ⟨g,v,cur,f,y,o.heap A (q g (by rw[f];rfl)),D⟩
def EF (Bs:cd)(w:World)(d:bm cj)(C:cd->Prop)(W:World):Prop:=
 ∃f cap,W.heap[Bs]?=qt (rj #[ra f d.length cap] 35 (0,0))/\aZ W (Bs+1) (ra f d.length cap) d/\(∀k,C k↔k=Bs\/(bx f d.length cap).ownBlock=qt k)/\Ext (Bs<=·) w W
theorem vE (w:World){gf:cd}{lb:cG bw}{fn:Func}{fb:Code}(hf:ac.funcs[gf]?=qt fn)(sR:(fn.name=="runtime.NumGoroutine")=qS)(sT:fn.body=qt fb)
  {rN S:bm cj->Prop}{Rd:cd->Prop}{w0:World}(sX:zB ac gf lb BV rN S Rd w0)(rv:aq w0.heap.size w0 w)(hRd:∀k,Rd k->k<w.heap.size)(sY:∀xs,rN xs->xs.length<=1000000):
  ft ac 200 #[ra qu 0 0,.func (.func gf) #[] lb] w λe w'=>∃xs f cap,S xs/\e= rk (ra f xs.length cap)/\aZ w' w.heap.size (ra f xs.length cap) xs/\aq w.heap.size w w':=by
 obtain⟨Bs,y⟩:=zE w.heap.size;obtain⟨W1,rl⟩:=zE (w.alloc (rj #[ra qu 0 0] 35));have rx:=gQ rl y;have rS:W1.heap[Bs]?=qt (rj #[ra qu 0 0] 35 (0,0)):=by rw[<-rl,<-y];exact alloc_at _ _
 have se:W1.heap.size=Bs+1:=by rw[<-rl];simp[y]
 have te:=zH rx;have tf:=zH rS;have rB:=zH se;have sf:=zH rl;have th:ca (aq w0.heap.size w0 W1):=rv.trans (rx.mono (by rw[<-y];exact rv.size));have rI:ca (∀k,Rd k->k<Bs):=λk d=>by rw[<-y];exact hRd k d
 have ti:=zH y;clear rx rS rl rv hRd se
 (refine iJ func200 rfl ?_
  simp only[ntmps200,List.size_toArray,eI,ki,Nat.reduceAdd,Nat.reduceSub,Array.replicate_succ,
   Array.replicate_zero,List.push_toArray,List.append_toArray,ej,gE])
 go_upto_region 1 with(fail)
 rw[sf.out];clear sf;(try rw[y]);clear y
 go_wp2_with fail
 refine mK (gf:=gf) rfl hf sR sT sX th.out ?hRd (λ_=>rfl) (EF Bs W1) (λ_ _ _ _=>jp) ?hI ?hIC (λ_ _ _ _ _ h _=>h.elim) (·=Bs) ?h0 ?hround ?hdone (λ_ _ _ _ _ _ _ _ h _=>h.elim)
 case hRd=>intro k d;have:=rI.out k d;have:=rB.out;omega
 case hI=>
  rintro o C W W' ⟨f,cap,v,h2,A,h4⟩ G;refine⟨f,cap,G.heap v (λh=>h.2 ((A _).2 (.inl rfl))),mM h2 G (λk d h=>h.2 ((A _).2 (.inr d))),A,h4.trans G (λj J=> .inl (by have:=rB.out;omega))⟩
 case hIC=>
  rintro o C W ⟨f,cap,v,h2,A,h4⟩ k d;rcases(A k).1 d with rfl|h
  ·exact⟨(bb.1 v).1,λh=>by have:=rI.out _ h;omega⟩
  ·have:=h2.lt k h
   exact⟨this.2,λh=>by have:=rI.out _ h;omega⟩
 case h0=>exact⟨qu,0,tf.out,aZ.nil _ _,λk=>by simp[eN],Ext.refl _ _⟩
 case hround=>
  rintro l o x C W hl hI tj;have tl:=sY _ tj;rw[co,fR] at tl;rw[show BV x=#[Z U x] from rfl];rw[pQ];simp only[ap,bj,bk];refine lB (aA rfl (by simp) (Z U x) (w':=W) (by simp[go_sem]) ?_);simp only[cV,ap,bj,bk];refine ip ⟨_,λk d=> .inl d,hI,Ext.refl _ _, ?_⟩;rintro q ⟨f,cap,g1,g2,g3,g4⟩ tM;have hv:q.cell? ⟨Bs,0,qu⟩=qt (ra f o.length cap):=by rw[bh _ _ _ _ _ _ g1];rfl
  have tP:Bs<q.heap.size:=(bb.1 g1).1;obtain⟨i0,tm,tn,tp,tr⟩:=ld lU;obtain⟨W3,rK⟩:=zE (q.alloc (rj #[Z U x] 3));have rm:Ext (λ_=>jp) q W3:=by rw[<-rK];exact(Ext.refl _ _).alloc _
  have tt:aZ W3 (Bs+1) (ra f o.length cap) o:=mM g2 rm (λ_ _ h=>h);have tv:∀j u,[eC .i64 x][j]?=qt u->W3.cell? ((⟨q.heap.size,0,qu⟩:oA).add j)=qt u:=by rw[<-rK];exact cell_one_new _ _ _
  refine wpIn_block (lB (aA rfl (by simp) (ra f o.length cap) (w':=q) (by simp[go_sem,hv]) ?_));simp only[cV,ap,bj,bk];refine aA rfl (by simp) (Z U x) (w':=q) (by simp[go_sem]) ?_;simp only[cV,ap,bj,bk];refine aA rfl (by simp) (ra (qt ⟨q.heap.size,0,qu⟩) 1 1) (w':=W3) (by rw[<-rK];go_simp) ?_;simp only[cV,ap,bj,bk];refine wpListIn_append_own_at (w:=W3) rfl (.tmp 8) (.tmp 10) 35 rfl (Bs+1) 3 i0 _ 1 8 gt tm tn tp tr rfl (by decide) (ra f o.length cap) o.length (o.map (eC .i64)) rfl tt ⟨q.heap.size,0,qu⟩ 1 1 [Z U x] rfl rfl tv (by simp[br]) (by unfold dl;omega) (by omega) (by have:=rm.size;omega) ?_;intro v9 w9 sk tz _ tA;obtain⟨K,R,tB⟩:∃K R,v9= ra K (o.length+1) R:=by
   rcases sk.2 with⟨v,h2⟩|⟨_,_,_,v,_⟩
   ·omega
   ·exact⟨_,_,v⟩
  subst tB;have rL:∀k,(bx f o.length cap).ownBlock=qt k->Bs+1<=k/\k<q.heap.size:=λk d=>g2.lt k d;have sn:Ext (λk=>(bx f o.length cap).ownBlock=qt k) q w9:=(rm.mono (λ_ h=>h.elim)).trans (Ext.of_grown (M:=λk=>(bx f o.length cap).ownBlock=qt k) tz (λk d=> .inl (by simpa using d))) (λj J=> .inl J);have rn:w9.heap[Bs]?=qt (rj #[ra f o.length cap] 35 (0,0)):=sn.heap g1 (λh=>by have:=(rL _ h).1;omega);have tR:=(bb.1 rn).1;have tD:w9.cell? ⟨Bs,0,qu⟩=qt (ra f o.length cap):=by rw[bh _ _ _ _ _ _ rn];rfl
  have tE:w9.frozen? ⟨Bs,0,qu⟩=qS:=dg _ _ _ _ _ rn;simp only[cV,ap,bj,bk];have sq:Ext (·=Bs) w9 (w9.setCell ⟨Bs,0,qu⟩ (ra K (o.length+1) R)):=Ext.set1 _ _ _ _;refine qd rfl (by simp) (w':=w9.setCell ⟨Bs,0,qu⟩ (ra K (o.length+1) R)) (by simp[go_sem,tD,tE]) ?_;refine ip ?_;have sr:∀k,(bx K (o.length+1) R).ownBlock=qt k->(bx f o.length cap).ownBlock=qt k\/q.heap.size<=k:=λk d=>by
   rcases tA with h|h
   ·exact .inl (by rw[<-h];exact d)
   ·rw[d] at h
    have:=cX h;have:=rm.size;exact .inr (by omega)
  have sx:Ext C q (w9.setCell ⟨Bs,0,qu⟩ (ra K (o.length+1) R)):=(sn.mono (λk d=>(g3 k).2 (.inr d))).trans sq (λj J=> .inl ((g3 j).2 (.inl J)));refine⟨λk=>k=Bs\/(bx K (o.length+1) R).ownBlock=qt k,λk d=> ?_,⟨K,R, ?_, ?_,λk=> ?_, ?_⟩,sx⟩
  ·rcases d with h|h
   ·exact .inl ((g3 k).2 (.inl h))
   ·rcases sr k h with h|h
    ·exact .inl ((g3 k).2 (.inr h))
    ·exact .inr h
  ·rw[co,fR]
   exact aE w9 Bs 0 _ _ _ rn
  ·rw[co,fR]
   exact mM (aZ.app sk) sq (λk d e=>by
    subst e;rcases sr _ d with h|h
    ·have:=(rL _ h).1;omega
    ·omega)
  ·rw[co,fR]
  ·exact g4.trans sx (λj J=>by
    rcases(g3 j).1 J with h|h
    ·exact .inl (by omega)
    ·exact .inl (by have:=(rL _ h).1;omega))
 case hdone=>
  rintro D xs C W hD sy hS ⟨f,cap,v,h2,A,h4⟩ sB;have hv:W.cell? ⟨Bs,0,qu⟩=qt (ra f xs.length cap):=by rw[bh _ _ _ _ _ _ v];rfl
  have HD:=zH sB;have HR:ca (∀w',Ext (·∈[D]) W w'->∃rr sE sL,S rr/\pB (ra f xs.length cap)= rk (ra sE rr.length sL)/\aZ w' w.heap.size (ra sE rr.length sL) rr/\aq w.heap.size w w'):=by
   intro w' G;rw[ti.out];refine⟨xs,f,cap,hS,rfl,(mM h2 G (λk d h=> ?_)).mono (gb _), ?_⟩
   ·have:k=D:=by simpa using h
    subst this;exact sy ((A _).2 (.inr d))
   ·have hs:=rB.out
    have tG:Ext (Bs<=·) W1 w':=h4.trans G (λj J=> .inr (by rw[cA.1 J];exact hD));exact te.out.trans (tG.below (by omega) (λk d=>d))
  clear v h2 A h4 sB sy hS;dsimp only
  go_wp2_with fail
  exact⟨[D],rfl,by simp,by intro b hb;simp at hb;subst hb;exact HD.out,ra f xs.length cap,λw' G=>⟨results_tmp (t:=4) rfl _ _ _,HR.out w' G⟩⟩
def eu (xs:bm cj):bm cj:=xs.mergeSort λx y=>decide (x<=y)
def BZ (S:bm cj->Prop)(w:World)(e:Ending)(w':World):Prop:=
 ∃xs d cap,S xs/\e= rk (ra d xs.length cap)/\aZ w' w.heap.size (ra d xs.length cap) (eu xs)/\aq w.heap.size w w'
theorem vF (w:World){gf:cd}{lb:cG bw}{fn:Func}{fb:Code}(hf:ac.funcs[gf]?=qt fn)(rl:(fn.name=="runtime.NumGoroutine")=qS)(rm:fn.body=qt fb)
  {K S:bm cj->Prop}{Rd:cd->Prop}{D:World}(rn:zB ac gf lb BV K S Rd D)(rr:aq D.heap.size D w)(hRd:∀k,Rd k->k<w.heap.size)(rv:∀xs,K xs->xs.length<=1000000)(hS:∀xs,S xs->xs.length<=1000000):
  ft ac 122 #[.func (.func gf) #[] lb] w (BZ S w):=by
 have R:=zH (vE w hf rl rm rn rr hRd rv);have HC:ca (ft ac 161 #[.func (.func gf) #[] lb] w λe w'=>∃xs h cap,S xs/\e= rk (ra h xs.length cap)/\aZ w' w.heap.size (ra h xs.length cap) xs/\aq w.heap.size w w'):=by
  unfold ca;go_enter func161,ntmps161
  go_wp2_with (go_at_call 200;refine R.out.mono ?_;rintro e w2 ⟨xs,h,cap,o,rfl,q,u⟩;have d:=zH (And.intro o (And.intro q u));clear o q u)
  go_ret;exact⟨xs,h,cap,d.out.1,rfl,d.out.2.1,d.out.2.2⟩
 clear R;have HS:=zH hS;go_enter func122,ntmps122
 go_upto_region 2 with(go_at_call 161;refine HC.out.mono ?_;rintro e w2 ⟨xs,h,cap,o,rfl,q,u⟩;have d:=zH (And.intro o (And.intro q u));clear o q u)
 rcases d.out.2.1.2 with⟨v,h0⟩|⟨g,rK,cur,e1,e2,A,e4,e5,e6,e7⟩
 ·have hx:xs=[]:=cY h0
  subst hx;simp only[fz] at v;obtain⟨rfl,_,rfl⟩:=v;have G:=zH (Any.slices_Sort_int_none tJ qu 0 w2)
  go_wp2_with (go_at_call 162;refine G.out.mono ?_;rintro e w3 ⟨rfl,rfl⟩)
  go_ret;have e0:eu []=[]:=by simp[eu]
  exact⟨[],qu,0,d.out.1,rfl,(by rw[e0];exact d.out.2.1),d.out.2.2⟩
 ·cases e1
  have rx:g<w2.heap.size:=(bb.1 A).1;have rL:=HS.out xs d.out.1;have G:=zH (AJ g 0 cap xs w2 (holds_of_blockI A (by simpa using e7)) rx (by omega));have rB:ca (∀(f:cd)(os:cG Obj),aZ (Go.Sort.grow (Go.Sort.putRow (eC .i64) (Sort.ahead w2 f) g 0 (xs.mergeSort λx y=>decide (x<=y)).toArray) os) w.heap.size (ra (qt ⟨g,0,qu⟩) xs.length cap) (eu xs)):=by
   intro f os;have v:=ownsRow_sortedI (w:=w2) (base:=w.heap.size) (g:=g) (cap:=cap) (n:=f) (e:=3) (os:=os) (cur:=cur) (ss:=xs) (ts:=eu xs) (by unfold eu;rw[mu]) (by omega) A e4 e5 e6;unfold aZ;have e:(eu xs).length=xs.length:=by unfold eu;rw[mu]
   rw[e];exact v
  have rI:ca (∀(f:cd)(os:cG Obj),aq w.heap.size w (Go.Sort.grow (Go.Sort.putRow (eC .i64) (Sort.ahead w2 f) g 0 (xs.mergeSort λx y=>decide (x<=y)).toArray) os)):=by
   intro f os;exact d.out.2.2.trans ((Ext.of_grown (M:=(w.heap.size<=·)) (grownBy_sortedI (w:=w2) (g:=g) (n:=f) (os:=os) _) (λk J=> .inl (by cases J;show w.heap.size<=g;omega))).below d.out.2.2.size (λk J=>J))
  clear A e7
  go_wp2_with (go_at_call 162;refine G.out.mono ?_;rintro e w9 ⟨rfl,f,os,rN⟩)
  go_ret;exact⟨xs,qt ⟨g,0,qu⟩,cap,d.out.1,rfl,rB.out f os,rI.out f os⟩
end
section
open Go.RowKit Go.Maps
theorem Eo:laidOutB ac=qv:=by kernel_rfl
theorem Db:(164:ge)<ac.types.size:=nr (by kernel_rfl)
theorem Ca:ac.keyTypeAt 2 164=qv:=by kernel_rfl
theorem AL:Keyed ac 164:=Keyed.of_law (deep_law_laid Eo (m:=2) (show 2+1<=10000 from Nat.le_of_ble_eq_true rfl) Db Ca (by rw[cD]))
def fI (x:cj):Prop:= -9223372036854775808<=x/\x<=9223372036854775807
def fV (n:Nd):Prop:=fI n.1/\fI n.2.1/\fI n.2.2
def jE (n:Nd):bw:= rh #[Z U n.1,Z U n.2.1,Z U n.2.2]
theorem yV {n:Nd}(h:fV n):∃l,keyOf ac 164 (jE n)=qt l:=by
 have w1:=kj h.1;have w2:=kj h.2.1;have f:=kj h.2.2;have o:ac.keyType 164=qv:=by kernel_rfl
 have d:ac.cellsOf 164=3:=by kernel_rfl
 have q:ac.cellsOf 3=1:=by kernel_rfl
 obtain⟨m,u⟩:∃m,ac.types.size=m+1:=⟨ac.types.size-1,by have:0<ac.types.size:=nr (by kernel_rfl);omega⟩
 unfold keyOf jE;simp only[cD];rw[cI (by rw[o];simp[Value.formed,cD,d]),u];unfold Program.keyLits;simp only[cD,Value.cells];rw[cI ⟨by rw[d];rfl,by kernel_rfl⟩];simp[Program.keyLits,cP,q,w1,w2,f]
theorem jF:AA ac 164 fV jE:=⟨AL,λ_ h=>yV h,λa b _ _ h=>by
 unfold jE at h;simp only[rh.injEq,Array.mk.injEq,qk,Value.int.injEq,true_and,and_true] at h;exact Prod.ext h.1 (Prod.ext h.2.1 h.2.2)⟩
theorem yX:(ac.info? 67).map (λi=>(i.zero,i.size,i.bytes))=qt (qt (rh #[Z U 0,Z U 0]),2,16):=by kernel_rfl
theorem yY:(ac.info? 164).map (λi=>(i.zero,i.size,i.bytes))=qt (qt (rh #[Z U 0,Z U 0,Z U 0]),3,24):=by kernel_rfl
theorem xn:(ac.info? 213).map (λi=>(i.zero,i.size,i.bytes))=qt (qt (rh #[Z U 0,Z U 0,Z U 0,Z U 0,re qS]),5,40):=by kernel_rfl
theorem qf:(ac.info? 215).map (λi=>(i.zero,i.size,i.bytes))=qt (qt (rh #[Z U 0,Z U 0,Z U 0,Z U 0]),4,32):=by kernel_rfl
def lQ (n:Nd):bm bw:=[Z U n.1,Z U n.2.1,Z U n.2.2]
def DW (t:Th):bm bw:=[Z U t.1,Z U t.2.1.1,Z U t.2.1.2.1,Z U t.2.1.2.2,re t.2.2]
def Cb (p:Nd×cd):bm bw:=[Z U p.1.1,Z U p.1.2.1,Z U p.1.2.2,Z U (p.2:cj)]
def Cy (p:cj×cj):bm bw:=[Z U p.1,Z U p.2]
inductive PT
 |no|top|mh|mf|mg|si|td|set (n:Nd)|fl (n:Nd)|gl (n:Nd)
structure vM where
 siA:du oA
 siK:cd
 tdA:du oA
 tdC:cd
 hv:Nd->bw
 fv:Nd->bw
 gv:Nd->bw
def zC (m:Mo)(HM FM GM:cd)(s:vM)(d f:cd):cG bw:=
 #[ra m.sA m.ss.length m.sC,ra m.fA m.fs.length m.fC,ra s.siA d s.siK,.map (qt HM),.map (qt FM),.map (qt GM),ra s.tdA f s.tdC]
def nG (w:World)(tg:cd->PT)(H:bm (Nd×cd))(v:bw)(n:Nd):Prop:=
 (v= .map qu/\∀x,(n,x)∉H)\/∃b c S,v= .map (qt b)/\ja w b c S/\c<=H.length/\(∀z:cj,z∈S↔∃x:cd,z=(x:cj)/\(n,x)∈H)/\tg b= .set n
def qg (w:World)(B:cd)(tg:cd->PT)(e:ge)(d:cd)(v:bw)(l:bm bw)(k:cd)(t:PT):Prop:=
 ∃f cap,v= ra f k cap/\w.ownsRow B e d v k l/\∀j,v.ownBlock=qt j->tg j=t
structure Pm (T HM FM GM:cd)(m:Mo)(B:cd)(tg:cd->PT)(s:vM)(p:PS)(w:World):Prop where
 row:w.heap[T]?=qt (rj (zC m HM FM GM s p.St.length p.td.length) 148 (0,0))
 hm:∃n,dL fV jE (.map qu) w HM n s.hv
 fm:∃n,dL fV jE (ra qu 0 0) w FM n s.fv
 gm:∃n,dL fV jE (ra qu 0 0) w GM n s.gv
 srow:w.ownsRow B 67 2 (ra s.siA p.St.length s.siK) p.St.length (p.St.flatMap Cy)
 trow:w.ownsRow B 215 4 (ra s.tdA p.td.length s.tdC) p.td.length (p.td.flatMap Cb)
 hs:∀n,fV n->nG w tg p.H (s.hv n) n
 fs:∀n,fV n->qg w B tg 164 3 (s.fv n) ((p.fl n).flatMap lQ) (p.fl n).length (.fl n)
 gs:∀n,fV n->qg w B tg 213 5 (s.gv n) ((p.gl n).flatMap DW) (p.gl n).length (.gl n)
 t1:tg T= .top
 t2:tg HM= .mh
 t3:tg FM= .mf
 t4:tg GM= .mg
 t5:∀k,(bx s.siA p.St.length s.siK).ownBlock=qt k->tg k= .si
 t6:∀k,(bx s.tdA p.td.length s.tdC).ownBlock=qt k->tg k= .td
 lo:∀k,tg k≠ .no->B<=k/\k<w.heap.size
 lS:p.St.length<=1000000
 lH:p.H.length<=500000000
 lT:p.td.length<=500000000
section
variable {T HM FM GM:cd}{m:Mo}{B:cd}{tg tg':cd->PT}{s:vM}{p p':PS}{w w' w1:World}{M:cd->Prop}{tg1:cd->PT}{Zk:PT->Prop}
theorem nG.ext {H:bm (Nd×cd)}{v:bw}{n:Nd}(h:nG w tg H v n)(f:Ext M w w')(o:∀k,M k->tg k≠ .set n):nG w' tg H v n:=by
 rcases h with h|⟨b,c,S,q,u,y,A,d⟩
 ·exact .inl h
 ·exact .inr ⟨b,c,S,q,u.ext f (λD=>o b D d),y,A,d⟩
theorem nG.tag {H:bm (Nd×cd)}{v:bw}{n:Nd}(h:nG w tg H v n)(f:∀k,tg k≠ .no->tg' k=tg k):nG w tg' H v n:=by
 rcases h with h|⟨b,c,S,o,q,u,y,d⟩
 ·exact .inl h
 ·exact .inr ⟨b,c,S,o,q,u,y,(f b (by rw[d];simp)).trans d⟩
theorem qg.ext {e:ge}{d k:cd}{v:bw}{l:bm bw}{t:PT}(h:qg w B tg e d v l k t)(o:Ext M w w')(q:∀k,M k->tg k≠t):qg w' B tg e d v l k t:=by
 obtain⟨u,cap,y,A,f⟩:=h;exact⟨u,cap,y,ae A o (λj D G=>q j G (f j D)),f⟩
theorem qg.tag {e:ge}{d k:cd}{v:bw}{l:bm bw}{t:PT}(h:qg w B tg e d v l k t)(q:t≠ .no)(u:∀k,tg k≠ .no->tg' k=tg k):qg w B tg' e d v l k t:=by
 obtain⟨y,cap,A,D,f⟩:=h;exact⟨y,cap,A,D,λj o=>(u j (by rw[f j o];exact q)).trans (f j o)⟩
theorem Pm.grow (h:Pm T HM FM GM m B tg s p w)(u:aq w.heap.size w w'):Pm T HM FM GM m B tg s p w':=by
 have d:Ext (λ_=>jp) w w':=Ext.of_below_size u;exact⟨d.heap h.row (λh=>h),h.hm.imp λ_ q=>q.ext d (λh=>h),h.fm.imp λ_ q=>q.ext d (λh=>h),h.gm.imp λ_ q=>q.ext d (λh=>h),
  ae h.srow d (λ_ _ h=>h),ae h.trow d (λ_ _ h=>h),λn f=>(h.hs n f).ext d (λ_ h=>h.elim),λn f=>(h.fs n f).ext d (λ_ h=>h.elim),λn f=>(h.gs n f).ext d (λ_ h=>h.elim),
  h.t1,h.t2,h.t3,h.t4,h.t5,h.t6,λk o=>⟨(h.lo k o).1,cn (h.lo k o).2 d.size⟩,h.lS,h.lH,h.lT⟩
def bn (Zk:PT->Prop)(T HM FM GM:cd)(m:Mo)(B:cd)(tg:cd->PT)(p:PS)(w w':World):Prop:=
 ∃tg' s',Pm T HM FM GM m B tg' s' p w'/\Ext (λk=>tg k≠ .no/\¬Zk (tg k)) w w'/\(∀k,tg' k≠ .no->tg k≠ .no\/w.heap.size<=k)/\∀k,tg k≠ .no->tg' k=tg k
def ZA (t:PT):Prop:=(∃n,t= .fl n)\/∃n,t= .gl n
def ZF (t:PT):Prop:=∃n,t= .gl n
def Z0 (_:PT):Prop:=jp
theorem Pm.same (h:Pm T HM FM GM m B tg s p w)(d:aq w.heap.size w w'):bn Zk T HM FM GM m B tg p w w':=⟨tg,s,h.grow d,Ext.of_below_size d,λ_ f=> .inl f,λ_ _=>rfl⟩
theorem bn.weak {d:PT->Prop}(h:bn Zk T HM FM GM m B tg p w w')(o:∀t,d t->Zk t):bn d T HM FM GM m B tg p w w':=by
 obtain⟨tg1,s1,u,v,y⟩:=h;exact⟨tg1,s1,u,v.mono (λk f=>⟨f.1,λq=>f.2 (o _ q)⟩),y⟩
theorem bn.step (h:Ext (λk=>tg k≠ .no/\¬Zk (tg k)) w w1)(f:(∀k,tg1 k≠ .no->tg k≠ .no\/w.heap.size<=k)/\∀k,tg k≠ .no->tg1 k=tg k)(o:bn Zk T HM FM GM m B tg1 p' w1 w'):bn Zk T HM FM GM m B tg p' w w':=by
 obtain⟨u,v,y,A,D,G⟩:=o;refine⟨u,v,y,h.trans A (λk d=> ?_),λk d=> ?_,λk d=> ?_⟩
 ·rcases f.1 k d.1 with q|q
  ·exact .inl ⟨q,by rw[<-f.2 k q];exact d.2⟩
  ·exact .inr q
 ·rcases D k d with q|q
  ·exact f.1 k q
  ·exact .inr (cE h.size q)
 ·have:=f.2 k d
  rw[<-this];exact G k (by rw[this];exact d)
theorem bn.below (d:aq w.heap.size w w1)(h:bn Zk T HM FM GM m B tg p w1 w'):bn Zk T HM FM GM m B tg p w w':=by
 obtain⟨tg',s',f,o,u,v⟩:=h;exact⟨tg',s',f,(Ext.of_below_size d).trans o (λq y=> .inl y),λk A=>(u k A).imp id (λh=>cE d.size h),v⟩
end
end
end Go.Proofs.YtjomgckjhcfbgaaGreat
