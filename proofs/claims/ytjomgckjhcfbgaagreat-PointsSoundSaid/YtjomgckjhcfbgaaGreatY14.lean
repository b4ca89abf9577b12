/- Walks. -/
import Derived.Maps.Own
import Derived.Maps.OwnOps
import Derived.Maps.Views
import Derived.Maps.RangeWalk
import Derived.Laws.IdiomRangeMap
import Derived.Test.YtjomgckjhcfbgaaGreatProg
import Derived.Shelf.Sort.Plain
import Derived.Shelf.Slices.In.SortNone
import Derived.Sort.OwnSortedInts
import Derived.Maps.OwnIn
import Derived.DeepKeys4
import Derived.Test.YtjomgckjhcfbgaaGreatY1
import Derived.Test.YtjomgckjhcfbgaaGreatY8
set_option maxRecDepth 100000
set_option maxHeartbeats 64000000
set_option linter.all false
namespace Go.Proofs.YtjomgckjhcfbgaaGreat
open Go.RowKit
open Go.Proofs.Tryz renaming prog→ac,underlying164→cX,underlying3→dj,underlying4→ii,underlying9→im,underlying35→iu,underlying162→n8
open Go.RowKit.Below renaming refl→aq,heap_alloc→cn
open _root_.List renaming setIfInBounds_toArray→aw,set_cons_zero→bt,set_cons_succ→bw,mem_of_getElem?→cf,length_append→cw,mem_singleton→cH,mem_append_left→cM,mem_append→cT,eq_nil_of_length_eq_zero→du,mem_map→dy,length_map→ei,range→ej,flatMap_cons→el,mem_flatMap→em,mem_append_right→ep,nil_append→fc,mem_cons→fy,append_assoc→fR,length_cons→fS,pairwise_iff_getElem→gi,length_singleton→ie,all_eq_true→js,cons_append→jt,nodup_append→lj,append_nil→mj,length_range→ml,length_nil→mp,mem_filter→mz,getElem_map→mC,length_mergeSort→ox,mem_cons_of_mem→pn,nodup_cons→rn
open Go.RowKit renaming Below→bh,Hid→cm
open _root_.Array renaming getElem?_eq_some_iff→bj,getElem?_toList→po
open Go renaming heap_setCell_same→bk,cell_of_row→cc,Value→cd,bodyPost_ret→dv,maxLen→dT,frozen_of_row→eq,results_none→fa,run_underlying→fN,Calls→gd,TypeId→gx,info_parts→gA,wpListIn_nil→ju,Oper→ke,Program→km,bodyPost_end→kA,plainElem→mw,wpIn_region_lit→m8,MapEntry→nx,MemPlace→od,wpIn_wide→pT,plainElem_bool→rk,wpListIn→tm
open _root_.Nat renaming lt_of_lt_of_le→bl,le_refl→ce,zero_le→cN,zero_add→cV,le_trans→cY,le_succ→ip,le_succ_of_le→sn,lt_trans→sq
open _root_ renaming List→bm,Int→bp,Nat→bx,if_neg→cE,if_pos→cR,Array→da,Option→eA,congrArg→eM,absurd→fW,decide_eq_true_eq→ly,False→mb,Bool→nj,and_true→pc,of_decide_eq_true→qe
open Go.Value renaming oneCell'→cj,slice→co,int→eE,ownBlock→eJ,slice→tP,pointer→tR,bool→tU,agg→tW,int→Z
open _root_.Option.some renaming inj→cD,injEq→dt
open _root_.Prod.mk renaming injEq→cU
open Go.Exit renaming inBlock→db,noGoto_ret→iz
open Go.Act renaming put→dk
open _root_.Classical renaming byContradiction→er
open _root_.Bool renaming and_eq_true→eN,true→tE,false→tG
open Go.Result renaming andThen→fX
open Go.Fence renaming wide→ge
open Go.Value.slice renaming injEq→gj
open Go.MapKept renaming run_getObj_map→gn,run_setObj_map→kf
open Go.Instr renaming lookup→gC,mapUpdate→oE,entryStore→sr,mapEntry→tt
open Go.ChangeMaps renaming heap_setBlock_same→la,setBlock→li
open _root_.Prod renaming fst→lE,snd→oA
open Go.WalkArith renaming wf_i64→ms
open Go.WideAt renaming IsKeyLit→qn
open Go.Ending renaming returned→sE,returned→ub
open _root_.List.cons renaming injEq→tn
open Go.Maps renaming has→tA
open _root_.Option renaming some→tB,none→tD
open Go.Obj renaming cells→ua
open Go.IntKind renaming i64→U
open Tryz
theorem ma {α:Type}{f:α->bp}:∀{l:bm α},aQ f l=0->∀x∈l,f x=0
 |[],_,x,q=>fW q (by simp)
 |y::r,h,x,q=>by
  unfold aQ at h
  by_cases d:f y=0
  ·rw[cR d] at h
   rcases fy.1 q with e|e
   ·rw[e];exact d
   ·exact ma h x e
  ·rw[cE d] at h;exact fW h d
theorem iZ {b:nj}{f:bp}(d:f≠0)(h:bM b f=0):b=tE:=by
 unfold bM at h;cases b with
 |true=>rfl
 |false=>rw[cE (by simp)] at h;exact fW h d
theorem sN {n:bx}{v:bp}:isVar n v=tE↔0<=v/\v<(n:bp):=by
 unfold isVar;simp
theorem dJ {m:Mo}(h:bf m=0):m.fs.length<=60/\m.ss.length<=30/\dz m=tG/\(bP m).all m.known=tE/\(∀g∈m.fs,codeF m g=0)/\0<=m.fnIx dG:=by
 unfold bf at h
 by_cases u:30<m.ss.length\/60<m.fs.length
 ·rw[cR u] at h;exact fW h (by decide)
 ·rw[cE u] at h
  by_cases f:dz m=tE
  ·rw[cR f] at h;exact fW h (by decide)
  ·rw[cE f] at h
   by_cases q:(bP m).all m.known=tG
   ·rw[cR q] at h;exact fW h (by decide)
   ·rw[cE q] at h
    by_cases d:aQ (codeF m) m.fs≠0
    ·rw[cR d] at h;exact fW h d
    ·rw[cE d] at h
     have v:=iZ (by decide) h;rw[eN,ly] at v;exact⟨by omega,by omega,by simpa using f,by simpa using q,ma (er d),v.1⟩
theorem jm {m:Mo}{g:Fn}(h:codeF m g=0):g.vs.length<=300/\1<=g.c.ins.length/\g.c.ins.length<=3000/\0<=g.c.par/\g.c.par<=(g.vs.length:bp)/\(∀i∈g.c.ins,aD m g i=0):=by
 unfold codeF at h
 by_cases f:300<g.vs.length\/g.c.ins.length<1\/3000<g.c.ins.length
 ·rw[cR f] at h;exact fW h (by decide)
 ·rw[cE f] at h
  by_cases q:g.c.par<0\/(g.vs.length:bp)<g.c.par
  ·rw[cR q] at h;exact fW h (by decide)
  ·rw[cE q] at h
   by_cases d:aQ (aD m g) g.c.ins≠0
   ·rw[cR d] at h;exact fW h d
   ·exact⟨by omega,by omega,by omega,by omega,by omega,ma (er d)⟩
theorem bK {m:Mo}{g:Fn}{i:Ins}(h:aD m g i=0):1<=i.op/\i.op<=18/\(∀v∈readsOf i,isVar g.vs.length v=tE)/\(nZ i.op=tE->isVar g.vs.length i.d=tE)/\(i.op=15->iG m g.vs i=0):=by
 unfold aD at h
 by_cases u:i.op<1\/18<i.op
 ·rw[cR u] at h;exact fW h (by decide)
 ·rw[cE u] at h
  by_cases q:aJ g.vs.length (readsOf i++(if nZ i.op then[i.d] else[]))=tG
  ·rw[cR q] at h;exact fW h (by decide)
  ·rw[cE q] at h
   have f:aJ g.vs.length (readsOf i++(if nZ i.op then[i.d] else[]))=tE:=by simpa using q
   unfold aJ at f;rw[List.all_append,eN,js] at f;refine⟨by omega,by omega,f.1,λD=> ?_,λG=> ?_⟩
   ·have A:=f.2
    rw[D] at A;simpa using A
   ·rw[cR G] at h;exact h
theorem nW {m:Mo}{vs:bm Vr}{i:Ins}(h:iG m vs i=0):0<=i.f/\∃g,m.fs[i.f.toNat]?=tB g/\(i.args.length:bp)=g.c.par/\g.c.par<=(g.vs.length:bp)/\iF vs g.vs 0 i.args=tE/\az vs i.d=g.ret:=by
 unfold iG at h
 by_cases u:i.f<0
 ·rw[cR u] at h;exact fW h (by decide)
 ·rw[cE u] at h
  cases v:m.fs[i.f.toNat]? with
  |none=>rw[v] at h;exact fW h (by simp)
  |some g=>
   rw[v] at h;simp only at h
   by_cases A:(i.args.length:bp)≠g.c.par\/(g.vs.length:bp)<g.c.par
   ·rw[cR A] at h;exact fW h (by decide)
   ·rw[cE A] at h
    by_cases q:iF vs g.vs 0 i.args=tG
    ·rw[cR q] at h;exact fW h (by decide)
    ·rw[cE q] at h
     have D:=iZ (by decide) h;exact⟨by omega,g,rfl,by omega,by omega,by simpa using q,by simpa using D⟩
abbrev Nd:=bp×bp×bp
abbrev Th:=bp×Nd×nj
def av (f v:bp):Nd:=(f,v,-1)
def cZ (f:bp):Nd:=(f,-1,-1)
def bN (x k:bp):Nd:=(-1,x,k)
inductive Lf (Bs:bm (Nd×bx)) (E:bm (Nd×Nd)) (Ts:bm (Nd×Th)):Nd->bx->Prop
 |base {n:Nd} {x:bx}:(n,x)∈Bs->Lf Bs E Ts n x
 |edge {a b:Nd} {x:bx}:(a,b)∈E->Lf Bs E Ts a x->Lf Bs E Ts b x
 |out {a d:Nd} {k:bp} {x y:bx}:(a,(k,d,tG))∈Ts->Lf Bs E Ts a x->Lf Bs E Ts (bN x k) y->Lf Bs E Ts d y
 |into {a b:Nd} {k:bp} {x y:bx}:(a,(k,b,tE))∈Ts->Lf Bs E Ts a x->Lf Bs E Ts b y->Lf Bs E Ts (bN x k) y
theorem Lf.mono {q u:bm (Nd×bx)}{E1 E2:bm (Nd×Nd)}{v A:bm (Nd×Th)}(G:∀p∈q,p∈u)(J:∀p∈E1,p∈E2)(D:∀p∈v,p∈A){n:Nd}{x:bx}(h:Lf q E1 v n x):Lf u E2 A n x:=by
 induction h with
 |base h=>exact .base (G _ h)
 |edge h _ ih=>exact .edge (J _ h) ih
 |out h _ _ d f=>exact .out (D _ h) d f
 |into h _ _ d f=>exact .into (D _ h) d f
def bQ (x:bx)(t:Th):Nd×Nd:=if t.2.2=tE then(t.2.1,bN x t.1) else(bN x t.1,t.2.1)
theorem Cv {Bs:bm (Nd×bx)}{E:bm (Nd×Nd)}{Ts:bm (Nd×Th)}{n:Nd}{t:Th}{x y:bx}(d:(n,t)∈Ts)(f:Lf Bs E Ts n x)(h:Lf Bs E Ts (bQ x t).1 y):Lf Bs E Ts (bQ x t).2 y:=by
 obtain⟨k,o,b⟩:=t;cases b with
 |true=>exact .into d f h
 |false=>exact .out d f h
abbrev XI:=bp×bp×Ins
def gu (f g:bp):bx->bm bp->bm (Nd×Nd)
 |_,[]=>[]
 |n,a::r=>(av f a,av g (n:bp))::gu f g (n+1) r
def iU (f:bp)(i:Ins):bm (Nd×Nd):=
 if i.op=9 then[(av f i.a,av f i.d)] else if i.op=15 then gu f i.f 0 i.args++[(cZ i.f,av f i.d)] else if i.op=18 then[(av f i.a,cZ f)] else[]
def jo (f:bp)(i:Ins):bm (Nd×Th):=
 if i.op=10 then[(av f i.a,(i.f,av f i.d,tG))] else if i.op=11 then[(av f i.a,(i.f,av f i.b,tE))] else[]
def mi (f:bp)(i:Ins)(c:bx):bm (Nd×bx):=if i.op=12 then[(av f i.d,c)] else[]
def iK (f k:bp)(i:Ins):bm (bp×bp):=if i.op=12 then[(f,k)] else[]
def aj (l:bm XI):bm (bp×bp):=l.flatMap λx=>iK x.1 x.2.1 x.2.2
def aV (l:bm XI):bm (Nd×Nd):=l.flatMap λx=>iU x.1 x.2.2
def eP (l:bm XI):bm (Nd×Th):=l.flatMap λx=>jo x.1 x.2.2
def aN:bx->bm XI->bm (Nd×bx)
 |_,[]=>[]
 |c,x::r=>mi x.1 x.2.2 c++aN (c+(iK x.1 x.2.1 x.2.2).length) r
theorem sO {x:XI}:∀(l:bm XI)(c:bx),aN c (l++[x])=aN c l++mi x.1 x.2.2 (c+(aj l).length)
 |[],c=>by simp[aN,aj]
 |y::r,c=>by
  rw[jt];unfold aN;rw[sO r,fR];congr 3;unfold aj;rw[el,cw];omega
def eu (f:bp):bx->bm Ins->bm XI
 |_,[]=>[]
 |k,i::r=>(f,(k:bp),i)::eu f (k+1) r
def eZ:bx->bm Fn->bm XI
 |_,[]=>[]
 |f,g::r=>eu (f:bp) 0 g.c.ins++eZ (f+1) r
def Mo.xi (m:Mo):bm XI:=eZ 0 m.fs
theorem sP {f:bp}{i:Ins}:∀(l:bm Ins)(k:bx),eu f k (l++[i])=eu f k l++[(f,((k+l.length:bx):bp),i)]
 |[],k=>by simp[eu]
 |x::r,k=>by
  rw[jt];unfold eu;rw[sP r (k+1),fS,show k+1+r.length=k+(r.length+1) by omega];rfl
theorem qd {g:Fn}:∀(l:bm Fn)(f:bx),eZ f (l++[g])=eZ f l++eu ((f+l.length:bx):bp) 0 g.c.ins
 |[],f=>by simp[eZ]
 |x::r,f=>by
  rw[jt];unfold eZ;rw[qd r (f+1),fR,fS,show f+1+r.length=f+(r.length+1) by omega]
theorem mR {f:bp}:∀(l:bm Ins)(k:bx),(eu f k l).length=l.length
 |[],_=>rfl
 |_::r,k=>by unfold eu;rw[fS,fS,mR r]
structure PS where
 St:bm (bp×bp)
 H:bm (Nd×bx)
 FL:bm (Nd×Nd)
 GL:bm (Nd×Th)
 td:bm (Nd×bx)
def PS.add (s:PS)(n:Nd)(x:bx):PS:=if (n,x)∈s.H then s else{s with H:=s.H++[(n,x)],td:=s.td++[(n,x)]}
def PS.addL (s:PS)(n:Nd)(l:bm bx):PS:=l.foldl (λs x=>s.add n x) s
def ED (a b:Nd)(s s':PS):Prop:=((a,b)∈s.FL/\s'=s)\/((a,b)∉s.FL/\∃l:bm bx,(∀x,x∈l↔(a,x)∈s.H)/\s'=({s with FL:=s.FL++[(a,b)]}:PS).addL b l)
def qf:bm (Nd×Nd)->PS->PS->Prop
 |[],s,s'=>s'=s
 |e::r,s,s'=>∃s1,ED e.1 e.2 s s1/\qf r s1 s'
def PS.start (s:PS)(f k:bp)(i:Ins):PS:=(mi f i s.St.length).foldl (λs p=>s.add p.1 p.2) {s with St:=s.St++iK f k i,GL:=s.GL++jo f i}
def Gs (f k:bp)(i:Ins)(s s':PS):Prop:=qf (iU f i) (s.start f k i) s'
theorem qf.snoc {a b:Nd}{s1 d:PS}(f:ED a b s1 d):∀{l:bm (Nd×Nd)}{s:PS},qf l s s1->qf (l++[(a,b)]) s d
 |[],s,h=>by
  obtain rfl:s1=s:=h;exact⟨d,f,rfl⟩
 |e::r,s,⟨t,q,u⟩=>⟨t,q,qf.snoc f u⟩
theorem ym {s:PS}{n:Nd}{x:bx}:(n,x)∈(s.add n x).H:=by
 unfold PS.add
 by_cases h:(n,x)∈s.H
 ·rw[cR h];exact h
 ·rw[cE h];simp
theorem mq {s:PS}{n:Nd}{x:bx}:(s.add n x).St=s.St/\(s.add n x).FL=s.FL/\(s.add n x).GL=s.GL/\
  ∃d,(s.add n x).H=s.H++d/\(s.add n x).td=s.td++d/\d.Nodup/\(∀p∈d,p∉s.H/\p.1=n/\p.2=x):=by
 unfold PS.add
 by_cases h:(n,x)∈s.H
 ·rw[cR h];exact⟨rfl,rfl,rfl,[],by simp,by simp,by simp,by simp⟩
 ·rw[cE h]
  exact⟨rfl,rfl,rfl,[(n,x)],rfl,rfl,by simp,λp f=>by rw[cH.1 f];exact⟨h,rfl,rfl⟩⟩
theorem kC {n:Nd}:∀(l:bm bx)(s:PS),(s.addL n l).St=s.St/\(s.addL n l).FL=s.FL/\(s.addL n l).GL=s.GL/\
  (∃d,(s.addL n l).H=s.H++d/\(s.addL n l).td=s.td++d/\d.Nodup/\∀p∈d,p∉s.H/\p.1=n/\p.2∈l)/\∀x∈l,(n,x)∈(s.addL n l).H
 |[],s=>⟨rfl,rfl,rfl,⟨[],by simp[PS.addL],by simp[PS.addL],by simp,by simp⟩,by simp⟩
 |x::r,s=>by
  obtain⟨J,a2,a3,d1,u,a5,a6,v⟩:=mq (s:=s) (n:=n) (x:=x);obtain⟨b1,b2,b3,⟨d2,G,b5,b6,f⟩,b8⟩:=kC (n:=n) r (s.add n x);have e:s.addL n (x::r)=(s.add n x).addL n r:=rfl;rw[e];refine⟨b1.trans J,b2.trans a2,b3.trans a3,⟨d1++d2,by rw[G,u,fR],by rw[b5,a5,fR], ?_,λp A=> ?_⟩,λy D=> ?_⟩
  ·rw[lj]
   exact⟨a6,b6,λp A q hq e=>(f q hq).1 (by rw[u,<-e];simp[A])⟩
  ·rcases cT.1 A with h|h
   ·exact⟨(v p h).1,(v p h).2.1,by rw[(v p h).2.2];simp⟩
   ·refine⟨λh'=>(f p h).1 (by rw[u];simp[h']),(f p h).2.1,by simp[(f p h).2.2]⟩
  ·rcases fy.1 D with rfl|D
   ·rw[G];exact cM _ ym
   ·exact b8 y D
structure J1 (l:bm XI)(s:PS):Prop where
 st:s.St=aj l
 gl:s.GL=eP l
 fl:∀e,e∈s.FL↔e∈aV l
 flN:s.FL.Nodup
 hN:s.H.Nodup
 td:s.td=s.H
 snd:∀p∈s.H,Lf (aN 0 l) (aV l) (eP l) p.1 p.2
 bas:∀p∈aN 0 l,p∈s.H
theorem EE:J1 [] ⟨[],[],[],[],[]⟩:=⟨rfl,rfl,λe=>by simp[aV],by simp,by simp,rfl,by simp,by simp[aN]⟩
theorem fe {α:Type}{a d:bm α}(f:a.Nodup)(u:d.Nodup)(h:∀p∈d,p∉a):(a++d).Nodup:=by
 rw[lj];exact⟨f,u,λp v q A e=>h q A (by rw[<-e];exact v)⟩
structure GU (Bs:bm (Nd×bx))(E:bm (Nd×Nd))(Ts:bm (Nd×Th))(St:bm (bp×bp))(s:PS):Prop where
 st:s.St=St
 gl:s.GL=Ts
 fl:∀e,e∈s.FL↔e∈E
 flN:s.FL.Nodup
 hN:s.H.Nodup
 td:s.td=s.H
 snd:∀p∈s.H,Lf Bs E Ts p.1 p.2
 bas:∀p∈Bs,p∈s.H
theorem GU.flow {Bs:bm (Nd×bx)}{E:bm (Nd×Nd)}{Ts:bm (Nd×Th)}{St:bm (bp×bp)}{s s':PS}{a b:Nd}(h:GU Bs E Ts St s)(G:ED a b s s'):GU Bs (E++[(a,b)]) Ts St s':=by
 have u:∀{n x},Lf Bs E Ts n x->Lf Bs (E++[(a,b)]) Ts n x:=λJ=>J.mono (λ_ h=>h) (λ_ h=>cM _ h) (λ_ h=>h);rcases G with⟨v,rfl⟩|⟨v,l,h2,rfl⟩
 ·exact⟨h.st,h.gl,λe=>by
   rw[h.fl e,cT,cH];exact⟨.inl,λh'=>h'.elim id (λe'=>by rw[e'];exact(h.fl _).1 v)⟩,h.flN,h.hN,h.td,λp f=>u (h.snd p f),h.bas⟩
 ·obtain⟨b1,A,b3,⟨d,q,b5,b6,D⟩,b8⟩:=kC (n:=b) l ({s with FL:=s.FL++[(a,b)]}:PS)
  refine⟨b1.trans h.st,b3.trans h.gl,λe=> ?_, ?_, ?_, ?_,λp f=> ?_,λp f=> ?_⟩
  ·rw[A,cT,cT,h.fl e]
  ·rw[A];exact fe h.flN (by simp) (λp f=>by rw[cH.1 f];exact v)
  ·rw[q];exact fe h.hN b6 (λp f=>(D p f).1)
  ·rw[q,b5];show s.td++d=s.H++d;rw[h.td]
  ·rw[q] at f
   rcases cT.1 f with f|f
   ·exact u (h.snd p f)
   ·obtain⟨_,q1,q2⟩:=D p f
    rw[q1];exact .edge (ep _ (by simp)) (u (h.snd (a,p.2) ((h2 _).1 q2)))
  ·rw[q];exact cM _ (h.bas p f)
theorem GU.flows {Bs:bm (Nd×bx)}{Ts:bm (Nd×Th)}{St:bm (bp×bp)}:∀{l:bm (Nd×Nd)}{E:bm (Nd×Nd)}{s s':PS},GU Bs E Ts St s->qf l s s'->GU Bs (E++l) Ts St s'
 |[],E,s,s',h,d=>by
  obtain rfl:s'=s:=d;rw[mj];exact h
 |e::r,E,s,s',h,⟨s1,f,q⟩=>by
  have:=(h.flow f).flows q;rw[fR] at this;exact this
theorem J1.step {l:bm XI}{s s':PS}{f k:bp}{i:Ins}(h:J1 l s)(J:Gs f k i s s'):J1 (l++[(f,k,i)]) s':=by
 have e1:aj (l++[(f,k,i)])=aj l++iK f k i:=by simp[aj]
 have e2:aV (l++[(f,k,i)])=aV l++iU f i:=by simp[aV]
 have e3:eP (l++[(f,k,i)])=eP l++jo f i:=by simp[eP]
 have e4:aN 0 (l++[(f,k,i)])=aN 0 l++mi f i (aj l).length:=by rw[sO,cV]
 have hm:GU (aN 0 (l++[(f,k,i)])) (aV l) (eP (l++[(f,k,i)])) (aj (l++[(f,k,i)])) (s.start f k i):=by
  rw[e1,e3,e4];have u:∀{n x},Lf (aN 0 l) (aV l) (eP l) n x->Lf (aN 0 l++mi f i (aj l).length) (aV l) (eP l++jo f i) n x:=λhl=>hl.mono (λ_ h=>cM _ h) (λ_ h=>h) (λ_ h=>cM _ h);unfold PS.start;rw[<-h.st,<-h.gl] at*;unfold mi at u⊢
  by_cases A:i.op=12
  ·rw[cR A]
   simp only[List.foldl_cons,List.foldl_nil];obtain⟨a1,D,a3,d,v,a5,a6,G⟩:=mq (s:=({s with St:=s.St++iK f k i,GL:=s.GL++jo f i}:PS)) (n:=av f i.d) (x:=s.St.length);rw[cR A] at u;refine⟨a1,a3,λe=>by rw[D];exact h.fl e,by rw[D];exact h.flN, ?_, ?_,λp q=> ?_,λp q=> ?_⟩
   ·rw[v];exact fe h.hN a6 (λp q=>(G p q).1)
   ·rw[v,a5];show s.td++d=s.H++d;rw[h.td]
   ·rw[v] at q
    rcases cT.1 q with q|q
    ·exact u (by rw[h.gl];exact h.snd p q)
    ·obtain⟨_,q1,q2⟩:=G p q
     exact .base (ep _ (by rw[cH];exact Prod.ext q1 q2))
   ·rcases cT.1 q with q|q
    ·rw[v];exact cM _ (h.bas p q)
    ·rw[cH.1 q];exact ym
  ·rw[cE A] at u⊢
   refine⟨rfl,rfl,h.fl,h.flN,h.hN,h.td,λp q=>u (by rw[h.gl];exact h.snd p q),λp q=>h.bas p (by simpa using q)⟩
 have:=hm.flows J;rw[<-e2] at this;exact⟨this.st,this.gl,this.fl,this.flN,this.hN,this.td,this.snd,this.bas⟩
def PS.fl (s:PS)(n:Nd):bm Nd:=(s.FL.filter λe=>decide (e.1=n)).map oA
def PS.gl (s:PS)(n:Nd):bm Th:=(s.GL.filter λe=>decide (e.1=n)).map oA
theorem sQ {s:PS}{n b:Nd}:b∈s.fl n↔(n,b)∈s.FL:=by
 unfold PS.fl;rw[dy];constructor
 ·rintro⟨e,d,f⟩
  rw[mz,ly] at d;have:e=(n,b):=Prod.ext d.2 f;rw[<-this];exact d.1
 ·intro h
  exact⟨(n,b),by rw[mz];exact⟨h,by simp⟩,rfl⟩
theorem EF {s:PS}{n:Nd}{t:Th}:t∈s.gl n↔(n,t)∈s.GL:=by
 unfold PS.gl;rw[dy];constructor
 ·rintro⟨e,d,f⟩
  rw[mz,ly] at d;have:e=(n,t):=Prod.ext d.2 f;rw[<-this];exact d.1
 ·intro h
  exact⟨(n,t),by rw[mz];exact⟨h,by simp⟩,rfl⟩
structure J2 (Bs:bm (Nd×bx))(E:bm (Nd×Nd))(Ts:bm (Nd×Th))(St:bm (bp×bp))(n:Nd)(x:bx)(bs:bm Nd)(ts:bm Th)(s:PS):Prop where
 st:s.St=St
 gl:s.GL=Ts
 fle:∀e∈E,e∈s.FL
 flu:∀e∈s.FL,e∈E\/∃t∈Ts,∃y,Lf Bs E Ts t.1 y/\e=bQ y t.2
 flN:s.FL.Nodup
 hN:s.H.Nodup
 tdN:s.td.Nodup
 tds:∀p∈s.td,p∈s.H
 snd:∀p∈s.H,Lf Bs E Ts p.1 p.2
 bas:∀p∈Bs,p∈s.H
 c4:∀e∈s.FL,∀y,(e.1,y)∈s.H->(e.1,y)∈s.td\/(e.2,y)∈s.H\/(e.1=n/\y=x/\e.2∈bs)
 c5:∀t∈Ts,∀y,(t.1,y)∈s.H->(t.1,y)∈s.td\/bQ y t.2∈s.FL\/(t.1=n/\y=x/\t.2∈ts)
section
variable {Bs:bm (Nd×bx)}{E:bm (Nd×Nd)}{Ts:bm (Nd×Th)}{St:bm (bp×bp)}{n:Nd}{x:bx}{bs:bm Nd}{ts:bm Th}{s s':PS}
theorem J1.settled {l:bm XI}{s:PS}(h:J1 l s)(n:Nd)(x:bx):J2 (aN 0 l) (aV l) (eP l) (aj l) n x [] [] s:=
 ⟨h.st,h.gl,λe d=>(h.fl e).2 d,λe d=> .inl ((h.fl e).1 d),h.flN,h.hN,by rw[h.td];exact h.hN,λp q=>by rw[<-h.td];exact q,h.snd,h.bas,
  λe _ y f=> .inl (by rw[h.td];exact f),λt _ y f=> .inl (by rw[h.td];exact f)⟩
theorem J2.pop {G:Nd}{J:bx}{td:bm (Nd×bx)}(h:J2 Bs E Ts St G J [] [] s)(u:s.td=td++[(n,x)]):J2 Bs E Ts St n x (s.fl n) (s.gl n) {s with td:=td}:=by
 have hN:=h.tdN;rw[u] at hN;refine⟨h.st,h.gl,h.fle,h.flu,h.flN,h.hN,(lj.1 hN).1,λp hp=>h.tds p (by rw[u];exact cM _ hp),h.snd,h.bas,λe A y v=> ?_,λt D y v=> ?_⟩
 ·rcases h.c4 e A y v with d|d|⟨_,_,d⟩
  ·rw[u] at d
   rcases cT.1 d with f|f
   ·exact .inl f
   ·have:=cH.1 f
    have q:e.1=n:=eM lE this;exact .inr (.inr ⟨q,eM oA this,sQ.2 (by rw[<-q];exact A)⟩)
  ·exact .inr (.inl d)
  ·exact fW d (by simp)
 ·rcases h.c5 t D y v with d|d|⟨_,_,d⟩
  ·rw[u] at d
   rcases cT.1 d with f|f
   ·exact .inl f
   ·have:=cH.1 f
    have q:t.1=n:=eM lE this;exact .inr (.inr ⟨q,eM oA this,EF.2 (by rw[<-q,h.gl];exact D)⟩)
  ·exact .inr (.inl d)
  ·exact fW d (by simp)
theorem J2.more {d:bm (Nd×bx)}(h:J2 Bs E Ts St n x bs ts s)(h1:s'.St=s.St)(A:s'.FL=s.FL)(h3:s'.GL=s.GL)(v:s'.H=s.H++d)(D:s'.td=s.td++d)(G:d.Nodup)(J:∀p∈d,p∉s.H)(h8:∀p∈d,Lf Bs E Ts p.1 p.2):J2 Bs E Ts St n x bs ts s':=by
 refine⟨h1.trans h.st,h3.trans h.gl,by rw[A];exact h.fle,by rw[A];exact h.flu,by rw[A];exact h.flN,by rw[v];exact fe h.hN G J, ?_,λp u=> ?_,λp u=> ?_,λp u=>by rw[v];exact cM _ (h.bas p u),λe he y f=> ?_,λt ht y f=> ?_⟩
 ·rw[D];exact fe h.tdN G (λp u hq=>J p u (h.tds p hq))
 ·rw[D] at u
  rw[v];exact(cT.1 u).elim (λq=>cM _ (h.tds p q)) (λq=>ep _ q)
 ·rw[v] at u
  exact(cT.1 u).elim (h.snd p) (h8 p)
 ·rw[A] at he
  rw[v] at f⊢;rw[D];rcases cT.1 f with f|f
  ·rcases h.c4 e he y f with q|q|q
   ·exact .inl (cM _ q)
   ·exact .inr (.inl (cM _ q))
   ·exact .inr (.inr q)
  ·exact .inl (ep _ f)
 ·rw[v] at f
  rw[A,D];rcases cT.1 f with f|f
  ·rcases h.c5 t ht y f with q|q|q
   ·exact .inl (cM _ q)
   ·exact .inr (.inl q)
   ·exact .inr (.inr q)
  ·exact .inl (ep _ f)
theorem J2.add {b:Nd}(h:J2 Bs E Ts St n x (b::bs) ts s)(J:(n,x)∈s.H)(A:(n,b)∈s.FL):J2 Bs E Ts St n x bs ts (s.add b x):=by
 obtain⟨a1,a2,a3,d,a4,a5,a6,D⟩:=mq (s:=s) (n:=b) (x:=x);have hl:Lf Bs E Ts b x:=by
  rcases h.flu _ A with G|⟨t,G,y,h2,h3⟩
  ·exact .edge G (h.snd _ J)
  ·have e1:(bQ y t.2).1=n:=by rw[<-h3]
   have e2:(bQ y t.2).2=b:=by rw[<-h3]
   rw[<-e2];exact Cv (n:=t.1) (t:=t.2) G h2 (by rw[e1];exact h.snd _ J)
 have f:=h.more a1 a2 a3 a4 a5 a6 (λp v=>(D p v).1) (λp v=>by rw[(D p v).2.1,(D p v).2.2];exact hl);refine⟨f.st,f.gl,f.fle,f.flu,f.flN,f.hN,f.tdN,f.tds,f.snd,f.bas,λe A y hy=> ?_,f.c5⟩;rcases f.c4 e A y hy with q|q|⟨q1,q2,u⟩
 ·exact .inl q
 ·exact .inr (.inl q)
 ·rcases fy.1 u with u|u
  ·exact .inr (.inl (by rw[u,q2];exact ym))
  ·exact .inr (.inr ⟨q1,q2,u⟩)
theorem J2.flow {t:Th}(h:J2 Bs E Ts St n x [] (t::ts) s)(hx:(n,x)∈s.H)(ht:(n,t)∈s.GL)(hf:ED (bQ x t).1 (bQ x t).2 s s'):J2 Bs E Ts St n x [] ts s':=by
 have hT:(n,t)∈Ts:=by rw[<-h.gl];exact ht
 have uc:=h.snd _ hx;have ud:∀y,Lf Bs E Ts (bQ x t).1 y->Lf Bs E Ts (bQ x t).2 y:=λy f=>Cv hT uc f;rcases hf with⟨h1,rfl⟩|⟨h1,l,h2,rfl⟩
 ·refine⟨h.st,h.gl,h.fle,h.flu,h.flN,h.hN,h.tdN,h.tds,h.snd,h.bas,h.c4,λu hu y f=> ?_⟩
  rcases h.c5 u hu y f with q|q|⟨q1,q2,D⟩
  ·exact .inl q
  ·exact .inr (.inl q)
  ·rcases fy.1 D with D|D
   ·exact .inr (.inl (by rw[D,q2];exact h1))
   ·exact .inr (.inr ⟨q1,q2,D⟩)
 ·have h0:∀y∈l,Lf Bs E Ts (bQ x t).2 y:=λy f=>ud y (h.snd _ ((h2 y).1 f))
  obtain⟨b1,J,b3,⟨d,G,b5,b6,b7⟩,b8⟩:=kC (n:=(bQ x t).2) l ({s with FL:=s.FL++[((bQ x t).1,(bQ x t).2)]}:PS);obtain⟨s2,ue⟩:∃s2,({s with FL:=s.FL++[((bQ x t).1,(bQ x t).2)]}:PS).addL (bQ x t).2 l=s2:=⟨_,rfl⟩
  rw[ue] at b1 J b3 G b5 b8⊢;refine⟨b1.trans h.st,b3.trans h.gl,λe A=>by rw[J];exact cM _ (h.fle e A),λe A=> ?_,by rw[J];exact fe h.flN (by simp) (λp v=>by rw[cH.1 v];exact h1),by rw[G];exact fe h.hN b6 (λp v=>(b7 p v).1), ?_,λp v=> ?_,λp v=> ?_,λp v=>by rw[G];exact cM _ (h.bas p v),λe A y f=> ?_,λu hu y f=> ?_⟩
  ·rw[J] at A
   rcases cT.1 A with A|A
   ·exact h.flu e A
   ·exact .inr ⟨(n,t),hT,x,uc,by rw[cH.1 A]⟩
  ·rw[b5];exact fe h.tdN b6 (λp v hq=>(b7 p v).1 (h.tds p hq))
  ·rw[b5] at v
   rw[G];exact(cT.1 v).elim (λq=>cM _ (h.tds p q)) (λq=>ep _ q)
  ·rw[G] at v
   rcases cT.1 v with v|v
   ·exact h.snd p v
   ·rw[(b7 p v).2.1];exact h0 _ (b7 p v).2.2
  ·rw[J] at A
   rw[G] at f⊢;rw[b5];rcases cT.1 f with f|f
   ·rcases cT.1 A with A|A
    ·rcases h.c4 e A y f with q|q|⟨_,_,q⟩
     ·exact .inl (cM _ q)
     ·exact .inr (.inl (cM _ q))
     ·exact fW q (by simp)
    ·have ee:=cH.1 A
     refine .inr (.inl ?_);rw[<-G,ee];exact b8 y ((h2 y).2 (by rw[ee] at f;exact f))
   ·exact .inl (ep _ f)
  ·rw[G] at f
   rw[J,b5];rcases cT.1 f with f|f
   ·rcases h.c5 u hu y f with q|q|⟨q1,q2,D⟩
    ·exact .inl (cM _ q)
    ·exact .inr (.inl (cM _ q))
    ·rcases fy.1 D with D|D
     ·exact .inr (.inl (ep _ (by rw[D,q2];simp)))
     ·exact .inr (.inr ⟨q1,q2,D⟩)
   ·exact .inl (ep _ f)
theorem J2.done (h:J2 Bs E Ts St n x [] [] s)(D:s.td=[]){m:Nd}{y:bx}:(m,y)∈s.H↔Lf Bs E Ts m y:=by
 have d4:∀a b:Nd,(a,b)∈s.FL->∀y,(a,y)∈s.H->(b,y)∈s.H:=λa b f y u=>by
  rcases h.c4 _ f y u with q|q|⟨_,_,q⟩
  ·rw[D] at q;exact fW q (by simp)
  ·exact q
  ·exact fW q (by simp)
 have d5:∀(a:Nd)(t:Th),(a,t)∈Ts->∀y,(a,y)∈s.H->bQ y t∈s.FL:=λa t d y u=>by
  rcases h.c5 _ d y u with q|q|⟨_,_,q⟩
  ·rw[D] at q;exact fW q (by simp)
  ·exact q
  ·exact fW q (by simp)
 refine⟨λG=>h.snd _ G,λJ=> ?_⟩
 induction J with
 |base hb=>exact h.bas _ hb
 |edge f _ ih=>exact d4 _ _ (h.fle _ f) _ ih
 |out d _ _ v A=>exact d4 _ _ (d5 _ _ d _ v) _ A
 |into d _ _ v A=>exact d4 _ _ (d5 _ _ d _ v) _ A
end
theorem ja {α:Type}[DecidableEq α]:∀(a b:bm α),a.Nodup->(∀x∈a,x∈b)->a.length<=b.length
 |[],_,_,_=>cN _
 |x::a,b,d,h=>by
  rw[rn] at d;have f:x∈b:=h x (by simp);have ih:=ja a (b.erase x) d.2 (λy q=>(List.mem_erase_of_ne (λe=>d.1 (by rw[<-e];exact q))).2 (h y (by simp[q])));rw[List.length_erase_of_mem f] at ih;have:=List.length_pos_of_mem f;simp;omega
theorem wJ {f g:bp}:∀(l:bm bp)(n:bx),(gu f g n l).length=l.length
 |[],_=>rfl
 |_::r,n=>by unfold gu;rw[fS,fS,wJ r]
theorem fq {α β:Type}{f:α->bm β}{k:bx}:∀(l:bm α),(∀x∈l,(f x).length<=k)->(l.flatMap f).length<=k*l.length
 |[],_=>by simp
 |x::r,h=>by
  rw[el,cw,fS,Nat.mul_succ];have:=h x (by simp);have:=fq r (λy d=>h y (by simp[d]));omega
theorem sS {l:bm XI}(q:∀x∈l,x.2.2.args.length<=40):(aV l).length<=41*l.length:=fq l λx u=>by
 unfold iU;have:=q x u
 by_cases d:x.2.2.op=9
 ·rw[cR d];simp
 by_cases f:x.2.2.op=15
 ·rw[cE d,cR f,cw,wJ];simp;omega
 by_cases h:x.2.2.op=18
 ·rw[cE d,cE f,cR h];simp
 ·rw[cE d,cE f,cE h];simp
theorem sU {l:bm XI}:(eP l).length<=1*l.length:=fq l λx _=>by
 unfold jo
 by_cases d:x.2.2.op=10
 ·rw[cR d];simp
 by_cases f:x.2.2.op=11
 ·rw[cE d,cR f];simp
 ·rw[cE d,cE f];simp
theorem dN {l:bm XI}:(aj l).length<=1*l.length:=fq l λx _=>by
 unfold iK
 by_cases d:x.2.2.op=12
 ·rw[cR d];simp
 ·rw[cE d];simp
theorem Ae {n:Nd}{x:bx}:∀(l:bm XI)(c:bx),(n,x)∈aN c l->c<=x/\x<c+(aj l).length
 |[],c,h=>by simp[aN] at h
 |y::r,c,h=>by
  unfold aN at h;unfold aj;rw[el,cw];rcases cT.1 h with h|h
  ·unfold mi at h
   unfold iK
   by_cases d:y.2.2.op=12
   ·rw[cR d,cH] at h
    rw[cR d];have:x=c:=eM oA h;simp;omega
   ·rw[cE d] at h;exact fW h (by simp)
  ·have:=Ae r _ h
   unfold aj at this;omega
theorem wK:∀(l:bm XI)(c:bx),(aN c l).length<=l.length
 |[],_=>by simp[aN]
 |y::r,c=>by
  unfold aN;rw[cw,fS];have:=wK r (c+(iK y.1 y.2.1 y.2.2).length);unfold mi
  by_cases d:y.2.2.op=12
  ·rw[cR d];simp;omega
  ·rw[cE d];simp;omega
def yo (l:bm XI):bm Nd:=(aN 0 l).map lE++(aV l).map oA++(eP l).map (λt=>t.2.2.1)++(ej (aj l).length).flatMap λx:bx=>(eP l).map λt=>bN (x:bp) t.2.1
def yt (l:bm XI):bm (Nd×bx):=(yo l).flatMap λn=>(ej (aj l).length).map λx=>(n,x)
theorem ed {l:bm XI}{n:Nd}{x:bx}(h:Lf (aN 0 l) (aV l) (eP l) n x):x<(aj l).length:=by
 induction h with
 |base h=>have:=Ae l 0 h;omega
 |edge _ _ ih=>exact ih
 |out _ _ _ _ ih=>exact ih
 |into _ _ _ _ ih=>exact ih
theorem FV {l:bm XI}{n:Nd}{x:bx}(h:Lf (aN 0 l) (aV l) (eP l) n x):(n,x)∈yt l:=by
 have d:=ed h;unfold yt;rw[em];refine⟨n, ?_,by rw[dy];exact⟨x,by simpa using d,rfl⟩⟩;unfold yo;cases h with
 |base h=>exact cM _ (cM _ (cM _ (dy.2 ⟨_,h,rfl⟩)))
 |edge h _=>exact cM _ (cM _ (ep _ (dy.2 ⟨_,h,rfl⟩)))
 |out h _ _=>exact cM _ (ep _ (dy.2 ⟨_,h,rfl⟩))
 |into h f _=>exact ep _ (em.2 ⟨_,by simpa using ed f,dy.2 ⟨_,h,rfl⟩⟩)
theorem BJ {l:bm XI}(d:∀x∈l,x.2.2.args.length<=40)(f:l.length<=400):(yt l).length<=100000000:=by
 have h:=wK l 0;have q:=sS d;have u:=sU (l:=l);have v:=dN (l:=l);have A:(yo l).length<=200000:=by
  unfold yo;have D:((ej (aj l).length).flatMap λx:bx=>(eP l).map λt=>bN (x:bp) t.2.1).length<=400*400:=by
   refine cY (fq (k:=400) _ (λx _=>by rw[ei];omega)) (Nat.mul_le_mul_left _ (by rw[ml];omega))
  rw[cw,cw,cw,ei,ei,ei];omega
 unfold yt;refine cY (fq (k:=400) _ (λn _=>by rw[ei,ml];omega)) ?_;omega
def BL (l:bm XI):bm (Nd×Nd):=aV l++(ej (aj l).length).flatMap λx:bx=>(eP l).map λt=>bQ x t.2
theorem BM {l:bm XI}(d:∀x∈l,x.2.2.args.length<=40)(f:l.length<=400):(BL l).length<=200000:=by
 have h:=sS d;have q:=sU (l:=l);have u:=dN (l:=l);have v:((ej (aj l).length).flatMap λx:bx=>(eP l).map λt=>bQ x t.2).length<=400*400:=by
  refine cY (fq (k:=400) _ (λx _=>by rw[ei];omega)) (Nat.mul_le_mul_left _ (by rw[ml];omega))
 unfold BL;rw[cw];omega
section
variable {l:bm XI}{St:bm (bp×bp)}{n:Nd}{x:bx}{bs:bm Nd}{ts:bm Th}{s:PS}
theorem J2.lens (h:J2 (aN 0 l) (aV l) (eP l) St n x bs ts s)(f:∀x∈l,x.2.2.args.length<=40)(q:l.length<=400):s.H.length<=100000000/\s.FL.length<=200000/\s.td.length<=s.H.length/\s.GL.length<=400:=by
 refine⟨cY (ja _ _ h.hN (λp u=>FV (h.snd p u))) (BJ f q),cY (ja _ _ h.flN (λe v=> ?_)) (BM f q),ja _ _ h.tdN h.tds, ?_⟩
 ·unfold BL
  rcases h.flu e v with d|⟨t,d,y,A,D⟩
  ·exact cM _ d
  ·exact ep _ (em.2 ⟨y,by simpa using ed A,dy.2 ⟨t,d,D.symm⟩⟩)
 ·rw[h.gl];have:=sU (l:=l);omega
end
section
open Go.RowKit Go.Maps Go.ChangeMaps
open Go.MapKept (Stamped stamped_empty stamped_push stamped_modify)
structure Dm (P:km)(kt:gx){α:Type}(ok:α->Prop)(kv:α->cd):Prop where
 K:Keyed P kt
 key:∀a,ok a->∃l,keyOf P kt (kv a)=tB l
 inj:∀a b,ok a->ok b->kv a=kv b->a=b
section
variable {P:km}{kt t e:gx}{α:Type}{ok:α->Prop}{kv:α->cd}{z:cd}{w w':World}{B n:bx}{F:α->cd}
def eH (ok:α->Prop)(kv:α->cd)(z:cd)(w:World)(B n:bx)(F:α->cd):Prop:=
 ∃d f,w.heap[B]?=tB (.map d f)/\Stamped d f/\d.size<=n/\(∀x∈d.toList,∃a,ok a/\x.key=kv a)/\
  ∀a,ok a->(∀x∈d.toList,x.key=kv a->x.val=F a)/\((∀x∈d.toList,x.key≠kv a)->F a=z)
theorem eH.made (w:World):eH ok kv z (w.alloc (.map #[] 0)) w.heap.size 0 (λ_=>z):=
 ⟨#[],0,(MapKept.heap_alloc w _).1,stamped_empty 0,by simp,by simp,λa _=>⟨by simp,λ_=>rfl⟩⟩
theorem eH.heap (h:eH ok kv z w B n F)(d:w'.heap[B]?=w.heap[B]?):eH ok kv z w' B n F:=by
 obtain⟨f,c,q,u⟩:=h;exact⟨f,c,d.trans q,u⟩
theorem eH.lt (h:eH ok kv z w B n F):B<w.heap.size:=by
 obtain⟨f,c,d,_⟩:=h;exact(bj.1 d).1
theorem eH.ext {M:bx->Prop}(h:eH ok kv z w B n F)(d:Ext M w w')(f:¬M B):eH ok kv z w' B n F:=h.heap (d.block B h.lt f)
theorem eH.mono {d:bx}(h:eH ok kv z w B n F)(f:n<=d):eH ok kv z w B d F:=by
 obtain⟨q,c,u,v,A,D⟩:=h;exact⟨q,c,u,v,cY A f,D⟩
theorem eH.look (h:eH ok kv z w B n F)(k:Dm P kt ok kv)(v:P.underlying t=tB (.map kt e))(D:(zeroValue e).run P w= .ok z w){a:α}(q:ok a):
  (gC t (.map (tB B)) (kv a) tG).run P w= .ok (F a) w:=by
 obtain⟨G,uc,A,hs,_,J,hF⟩:=h;obtain⟨l,u⟩:=k.key a q;rcases k.K.find w u G.toList (λx hx=>by obtain⟨a',d,f⟩:=J x hx;rw[f];exact k.key a' d) with⟨d,f⟩|⟨j,e0,d,f,h3⟩
 ·rw[(hF a q).2 f]
  simp[gC,fN v,gn A,k.K.check w _ u,d,D,fX]
 ·rw[<-(hF a q).1 e0 (cf f) h3]
  simp[gC,fN v,gn A,k.K.check w _ u,d,fX]
open Classical in
noncomputable def Af (F:α->cd)(a:α)(v:cd):α->cd:=λx=>if x=a then v else F x
theorem jq (a:α)(v:cd):Af F a v a=v:=cR rfl
theorem mr {a b:α}(h:b≠a)(v:cd):Af F a v b=F b:=cE h
theorem gM {d:Obj}{f:da nx}{c:bx}(h:w.heap[B]?=tB (.map f c)):Ext (·=B) w (li w B d):=
 ⟨rfl,rfl,rfl,by simp[li],λi _ q=>heap_setBlock_other h _ q⟩
theorem sV {d:da nx}{ud j:bx}{q:nx}(k:Dm P kt ok kv)(hs:Stamped d ud)(hn:d.size<=n)(hk:∀x∈d.toList,∃a,ok a/\x.key=kv a)
  (hF:∀a,ok a->(∀x∈d.toList,x.key=kv a->x.val=F a)/\((∀x∈d.toList,x.key≠kv a)->F a=z)){a:α}(ha:ok a)(D:d[j]?=tB q)(h0:q.key=kv a)(v:cd)(f:nx->nx)(hf:f q={q with val:=v})(vj:∀x,(f x).born=x.born)
  (hb:w.heap[B]?=tB (.map (d.modify j f) ud)):eH ok kv z w B n (Af F a v):=by
 have G:j<d.size:=(bj.1 D).1;have ue:(d.modify j f).toList=d.toList.set j {q with val:=v}:=by
  apply List.ext_getElem?;intro i;rw[po,Array.getElem?_modify,List.getElem?_set]
  by_cases e:j=i
  ·subst e
   rw[cR rfl,cR rfl,D];simp[hf,G]
  ·rw[cE e,cE e,po]
 have vc:d.toList.Pairwise (λx y=>x.key≠y.key):=((MapKept.stamped_iff d ud).1 hs).2.2;have vd:∀x∈d.toList.set j {q with val:=v},x={q with val:=v}\/(x∈d.toList/\x.key≠kv a):=by
  intro x A;obtain⟨i,hi,u⟩:=List.getElem_of_mem A;rw[List.getElem_set] at u
  split at u
  ·exact .inl u.symm
  ·rename_i ur
   have uv:i<d.toList.length:=by simpa using hi
   refine .inr ⟨u▸List.getElem_mem uv,λe=>ur ?_⟩;have J:d.toList[j]'(by simpa using G)=q:=by
    have:=(bj.1 D).2;simpa using this
   refine er λvm=> ?_;rcases Nat.lt_or_gt_of_ne vm with ux|ux
   ·exact gi.1 vc j i (by simpa using G) uv ux (by rw[J,h0,u,e])
   ·exact gi.1 vc i j uv (by simpa using G) ux (by rw[J,h0,u,e])
 have vp:{q with val:=v}∈d.toList.set j {q with val:=v}:=List.mem_iff_getElem.2 ⟨j,by simpa using G,by simp⟩;refine⟨_,_,hb,stamped_modify hs j f (λe _=>vj e) (λe _ he=>by rw[D] at he;obtain rfl:=cD he;rw[hf]),by simpa using hn, ?_,λb uc=>⟨?_, ?_⟩⟩
 ·rw[ue]
  intro x A;rcases vd x A with rfl|⟨h,_⟩
  ·exact⟨a,ha,h0⟩
  ·exact hk x h
 ·rw[ue]
  intro x A va;rcases vd x A with rfl|⟨h,ur⟩
  ·have:b=a:=k.inj b a uc ha (va.symm.trans h0)
   subst this;rw[jq]
  ·rw[mr (λe=>ur (by rw[va,e]))]
   exact(hF b uc).1 x h va
 ·rw[ue]
  intro vf;have vh:b≠a:=λe=>vf _ vp (by rw[e];exact h0);rw[mr vh];refine(hF b uc).2 λx A e=> ?_;obtain⟨i,hi,u⟩:=List.getElem_of_mem A
  by_cases vi:j=i
  ·subst vi
   have J:d.toList[j]=q:=by
    have:=(bj.1 D).2;simpa using this
   rw[J] at u;subst u;exact vh (k.inj b a uc ha (e.symm.trans h0))
  ·exact vf x (List.mem_iff_getElem.2 ⟨i,by simpa using hi,by rw[List.getElem_set,cE vi];exact u⟩) e
theorem wL {f:da nx}{h:bx}(k:Dm P kt ok kv)(J:Stamped f h)(hn:f.size<=n)(hk:∀x∈f.toList,∃a,ok a/\x.key=kv a)
  (hF:∀a,ok a->(∀x∈f.toList,x.key=kv a->x.val=F a)/\((∀x∈f.toList,x.key≠kv a)->F a=z)){a:α}(A:ok a)(D:∀x∈f.toList,x.key≠kv a)(v:cd)
  (hb:w.heap[B]?=tB (.map (f.push ⟨kv a,v,h⟩) (h+1))):eH ok kv z w B (n+1) (Af F a v):=by
 refine⟨_,_,hb,stamped_push J D,by simp;omega, ?_,λb q=>⟨?_, ?_⟩⟩
 ·intro x d
  simp only[Array.toList_push,cT,cH] at d;rcases d with d|rfl
  ·exact hk x d
  ·exact⟨a,A,rfl⟩
 ·intro x d u
  simp only[Array.toList_push,cT,cH] at d;rcases d with d|rfl
  ·rw[mr (λe=>D x d (by rw[u,e]))]
   exact(hF b q).1 x d u
  ·have:a=b:=k.inj a b A q u
   subst this;rw[jq]
 ·intro G
  have uc:b≠a:=λe=>G ⟨kv a,v,h⟩ (by simp) (by rw[e]);rw[mr uc];exact(hF b q).2 λx d e=>G x (by simp[d]) e
theorem eH.put (h:eH ok kv z w B n F)(k:Dm P kt ok kv)(ht:P.underlying t=tB (.map kt e)){a:α}(D:ok a)(v:cd):
  ∃w',(oE t (.map (tB B)) (kv a) v).run P w= .ok () w'/\eH ok kv z w' B (n+1) (Af F a v)/\Ext (·=B) w w':=by
 obtain⟨u,G,d,hs,hn,J,hF⟩:=h;obtain⟨l,A⟩:=k.key a D;rcases k.K.find w A u.toList (λx hx=>by obtain⟨a',f,q⟩:=J x hx;rw[q];exact k.key a' f) with⟨f,q⟩|⟨j,e0,f,q,h3⟩
 ·refine⟨li w B (.map (u.push ⟨kv a,v,G⟩) (G+1)), ?_,wL k hs hn J hF D q v (la d _),gM d⟩
  simp[oE,fN ht,gn d,k.K.check w tG A,f,kf _ d,fX,li]
 ·have hj:u[j]?=tB e0:=by simpa using q
  refine⟨li w B (.map (u.modify j (λe'=>{e' with key:=kv a,val:=v})) G), ?_,(sV k hs hn J hF D hj h3 v (λe'=>{e' with key:=kv a,val:=v}) (by rw[<-h3]) (λ_=>rfl) (la d _)).mono (ip _),gM d⟩;simp[oE,fN ht,gn d,k.K.check w tG A,f,hj,h3,k.K.stays w A,kf _ d,fX,li]
theorem findIdx_born {d:da nx}{j:bx}{h:nx}(A:(d.toList.map (·.born)).Nodup)(D:d[j]?=tB h):d.findIdx? (λe=>(e.born:bp)==(h.born:bp))=tB j:=by
 obtain⟨f,q⟩:=bj.1 D;rw[Array.findIdx?_eq_some_iff_getElem];refine⟨f,by rw[q];simp,λi u=> ?_⟩;have G:i<d.size:=sq u f;have v:=gi.1 A i j (by simpa using G) (by simpa using f) u;simp only[mC,Array.getElem_toList] at v;rw[q] at v;simp;omega
theorem Ag {a:α}{v:cd}(h:F a=v):Af F a v=F:=by
 funext x
 by_cases e:x=a
 ·rw[e,jq,h]
 ·rw[mr e]
theorem eH.entry (h:eH ok kv z w B n F)(k:Dm P kt ok kv)(ht:P.underlying t=tB (.map kt e))(hz:(zeroValue e).run P w= .ok z w){a:α}(ha:ok a):
  ∃w' st,(tt t (.map (tB B)) (kv a)).run P w= .ok (.tuple #[F a,Z U st]) w'/\Ext (·=B) w w'/\eH ok kv z w' B (n+1) F/\
   ∀W v,W.heap[B]?=w'.heap[B]? ->∃W',(sr t (.map (tB B)) (Z U st) v).run P W= .ok () W'/\eH ok kv z W' B (n+1) (Af F a v)/\Ext (·=B) W W':=by
 obtain⟨u,d,A,hs,hn,hk,hF⟩:=h;obtain⟨l,hl⟩:=k.key a ha;have store:∀(f:da nx)(uc j:bx)(q:nx)(F1:α->cd),Stamped f uc->f.size<=n+1->(∀x∈f.toList,∃a,ok a/\x.key=kv a)->
   (∀a,ok a->(∀x∈f.toList,x.key=kv a->x.val=F1 a)/\((∀x∈f.toList,x.key≠kv a)->F1 a=z))->f[j]?=tB q->q.key=kv a->
   ∀W v,W.heap[B]?=tB (.map f uc)->∃W',(sr t (.map (tB B)) (Z U (q.born:bp)) v).run P W= .ok () W'/\eH ok kv z W' B (n+1) (Af F1 a v)/\Ext (·=B) W W':=by
  intro f uc j q F1 s1 n1 k1 f1 hj h0 W v G;refine⟨li W B (.map (f.modify j (λD=>{D with val:=v})) uc), ?_,sV k s1 n1 k1 f1 ha hj h0 v (λD=>{D with val:=v}) rfl (λ_=>rfl) (la G _),gM G⟩;have ur:=findIdx_born ((MapKept.stamped_iff f uc).1 s1).2.1 hj;simp[sr,gn G,asInt,asIntOf,ur,kf _ G,fX,li]
 rcases k.K.find w hl u.toList (λx hx=>by obtain⟨a',h1,h2⟩:=hk x hx;rw[h2];exact k.key a' h1) with⟨h1,h2⟩|⟨j,q,h1,h2,h3⟩
 ·have ud:F a=z:=(hF a ha).2 h2
  have hm:=wL (w:=li w B (.map (u.push ⟨kv a,z,d⟩) (d+1))) k hs hn hk hF ha h2 z (la A _);rw[Ag ud] at hm;obtain⟨f,c1,ue,q1,q2,q3,q4⟩:=hm;have J:(li w B (.map (u.push ⟨kv a,z,d⟩) (d+1))).heap[B]?=tB (.map (u.push ⟨kv a,z,d⟩) (d+1)):=la A _;have e1:=ue.symm.trans J;simp only[dt,Obj.map.injEq] at e1;obtain⟨rfl,rfl⟩:=e1;refine⟨li w B (.map (u.push ⟨kv a,z,d⟩) (d+1)),(d:bp), ?_,gM A,⟨_,_,J,q1,q2,q3,q4⟩,λW v G=> ?_⟩
  ·rw[ud]
   simp[tt,fN ht,gn A,k.K.check w tG hl,h1,hz,kf _ A,fX,li,goInt]
  ·exact store _ _ u.size ⟨kv a,z,d⟩ F q1 q2 q3 q4 (by simp) rfl W v (G.trans J)
 ·have hj:u[j]?=tB q:=by simpa using h2
  have ud:q.val=F a:=(hF a ha).1 q (cf h2) h3;have J:(li w B (.map (u.modify j (λD=>{D with key:=kv a})) d)).heap[B]?=tB (.map (u.modify j (λD=>{D with key:=kv a})) d):=la A _;have hm:=sV k hs hn hk hF ha hj h3 (F a) (λD=>{D with key:=kv a}) (by rw[<-ud,<-h3]) (λ_=>rfl) J;rw[Ag rfl] at hm;obtain⟨f,c1,ue,q1,q2,q3,q4⟩:=hm;have e1:=ue.symm.trans J;simp only[dt,Obj.map.injEq] at e1;obtain⟨rfl,rfl⟩:=e1;refine⟨_,(q.born:bp), ?_,gM A,⟨_,_,J,q1,sn q2,q3,q4⟩,λW v G=> ?_⟩
  ·simp[tt,fN ht,gn A,k.K.check w tG hl,h1,hj,h3,k.K.stays w hl,kf _ A,fX,li,goInt,ud]
  ·exact store _ _ j {q with key:=kv a} F q1 (sn q2) q3 q4 (by rw[Array.getElem?_modify,cR rfl,hj];rfl) rfl W v (G.trans J)
end
end
def Cw (P:km)(gf:bx)(lb:da cd){α:Type}(D:α->da cd)(A S:bm α->Prop)(Rd:bx->Prop)(w:World):Prop:=
 ∀(l:bx)(J:bm α->(bx->Prop)->World->Prop)(q:bm α->World->Prop)(C:bx->Prop)(W:World),bh w.heap.size w W->
  (∀d C f h,J d C f->Ext (λk=>W.heap.size<=k/\¬C k) f h->J d C h)->
  (∀d C f,J d C f->∀k,C k->k<f.heap.size/\¬Rd k)->
  (∀d f h,q d f->Ext (λ_=>mb) f h->q d h)->
  (∀d x C f,J d C f->A (d++[x])->Cf P (.func (.yield l) #[] #[]) (D x) f λv h=>
   (v= tU tE/\∃u:bx->Prop,(∀k,u k->C k\/f.heap.size<=k)/\J (d++[x]) u h/\Ext C f h)\/(v= tU tG/\q (d++[x]) h))->
  J [] C W->
  gd P gf (#[.func (.yield l) #[] #[]]++lb) W λe W'=>∃v,e= ub v/\((∃xs,S xs/\∃u,J xs u W')\/(∃d,A d/\q d W'))
theorem oU {P:km}{α:Type}{g:Operand}{ps:da Tmp}{assign body:Code}{Q:Exit->Act->World->Prop}{a:Act}{w:World}{gf:bx}{lb:da cd}{fn:Func}{fb:Code}
  (hg:a.eval g= .func (.func gf) #[] lb)(hf:P.funcs[gf]?=tB fn)(wl:(fn.name=="runtime.NumGoroutine")=tG)(hb:fn.body=tB fb)
  {vj:α->da cd}{vu S:bm α->Prop}{Rd:bx->Prop}{w0:World}(ws:Cw P gf lb vj vu S Rd w0)(we:bh w0.heap.size w0 w)(hRd:∀k,Rd k->k<w.heap.size)(wx:∀x,(vj x).size=ps.size)
  (I:bm α->(bx->Prop)->World->Prop)(Ix:Code->bm α->(bx->Prop)->World->Prop)
  (hI:∀d C W W',I d C W->Ext (λk=>w.heap.size<=k/\¬C k) W W'->I d C W')
  (hIC:∀d C W,I d C W->∀k,C k->k<W.heap.size/\¬Rd k)
  (hIx:∀c d C W W',Ix c d C W->Ext (λk=>w.heap.size<=k/\¬C k) W W'->Ix c d C W')
  (C0:bx->Prop)(h0:I [] C0 w)
  (hround:∀(l:bx)(d:bm α)(x:α)(C:bx->Prop)(W:World),w.heap.size<=l->I d C W->vu (d++[x])->
   assign.wpIn (ge.inRound l) 0 P (Exit.then (λa₁ W₁=>∃C₁:bx->Prop,(∀k,C₁ k->C k\/W.heap.size<=k)/\I d C₁ W₁/\Ext C W W₁/\
    ∀W₂,I d C₁ W₂->Ext (·=l) W₁ W₂->body.wpIn (ge.inRound l) 0 P (wY I Ix C₁ W₂ (d++[x])) a₁ W₂) (λ_ _ _=>mb))
    {tmps:=(ps.zip (vj x)).foldl (λt (p,v)=>t.setIfInBounds p v) a.tmps,defers:=[]} W)
  (hdone:∀(D:bx)(xs:bm α)(C:bx->Prop)(W:World),w.heap.size<=D->¬C D->S xs->I xs C W->W.heap[D]?=tB (.deferred (tB []))->Q .normal {a with defers:=mark D::a.defers} W)
  (hstop:∀(D:bx)(c:Code)(d:bm α)(C:bx->Prop)(W:World),w.heap.size<=D->¬C D->vu d->Ix c d C W->W.heap[D]?=tB (.deferred (tB []))->c.wp P Q {a with defers:=mark D::a.defers} W):
  (Code.rangeFunc g ps assign body).wp P Q a w:=by
 have eg:∀args w,(callFunc gf args).run P w= .ok (.enter gf args) w:=enters_of hf wl hb;refine(pT (n:=0)).1 (wpIn_rangeFunc ?_);intro wg _;obtain⟨G,ue⟩:∃G:LoopState->eA Code->Loop,G=λst pe=>{state:=st,pending:=pe,fn:=wg,tmps:=a.tmps,params:=ps,assign,body,defers:=w.heap.size}:=⟨_,rfl⟩
 obtain⟨W1,vi⟩:=zE ((w.alloc (.deferred (tB []))).alloc (.loop (G .ready tD)));obtain⟨D,hD⟩:=zE w.heap.size;obtain⟨l,hl⟩:=zE (w.heap.size+1);have yi:W1.heap.size=w.heap.size+2:=by rw[<-vi];simp
 have xf:W1.heap[l]?=tB (.loop (G .ready tD)):=by
  rw[<-vi,<-hl];have:=World.alloc_heap_new (w.alloc (.deferred (tB []))) (.loop (G .ready tD));rwa [World.size_alloc] at this
 have xj:W1.heap[D]?=tB (.deferred (tB [])):=by
  rw[<-vi,<-hD];exact(cn _ _ _ (by simp)).trans (World.alloc_heap_new w _)
 have wi:Ext (λ_=>mb) w W1:=by rw[<-vi];exact((Ext.refl _ w).alloc _).alloc _
 have xl:I [] C0 W1:=hI _ _ _ _ h0 (wi.mono (λ_ h=>h.elim));have xo:bh w0.heap.size w0 W1:=we.trans ((wi.below (ce _) (λ_ h=>h.elim)).mono we.size);refine⟨l,[mark D],W1,{target:= .fn (.func gf) lb,args:=#[.func (.yield l) #[] #[]]},W1,gf,#[.func (.yield l) #[] #[]]++lb,W1, ?_, ?_,λ_ _=>trivial, ?_,λh=>by simp[ge] at h, ?_⟩
 ·rw[<-vi,ue,<-hl,<-hD];exact run_enterLoop_outer _ _ _ _ _
 ·simp only[resolve,hg]
  simp[go_sem]
 ·simp[invoke,go_sem,eg]
 have xp:=ws l
  (λd C W=>∃q:bx->Prop,(∀k,C k↔q k\/k=l\/k=D)/\¬q l/\¬q D/\I d q W/\W.heap[l]?=tB (.loop (G .ready tD))/\W.heap[D]?=tB (.deferred (tB [])))
  (λd W=>∃(q:bx->Prop) (c:Code),¬q l/\¬q D/\Ix c d q W/\W.heap[l]?=tB (.loop (G .done (tB c)))/\W.heap[D]?=tB (.deferred (tB [])))
  (λk=>C0 k\/k=l\/k=D) W1 xo ?hst ?hC ?hstx ?hY ⟨C0,λ_=>Iff.rfl,λh=>by have:=(hIC _ _ _ h0 l h).1;omega,λh=>by have:=(hIC _ _ _ h0 D h).1;omega,xl,xf,xj⟩
 case hst=>
  rintro d C X Y ⟨q,J,n1,n2,hi,h1,h2⟩ hx;refine⟨q,J,n1,n2,hI _ _ _ _ hi (hx.mono λk hk=>⟨by omega,λh=>hk.2 ((J k).2 (.inl h))⟩),hx.heap h1 (λh=>h.2 ((J l).2 (by simp))),hx.heap h2 (λh=>h.2 ((J D).2 (by simp)))⟩
 case hC=>
  rintro d C X ⟨q,J,n1,n2,hi,h1,h2⟩ k hk;rcases(J k).1 hk with h|rfl|rfl
  ·exact hIC _ _ _ hi k h
  ·exact⟨(bj.1 h1).1,λh=>by have:=hRd _ h;omega⟩
  ·exact⟨(bj.1 h2).1,λh=>by have:=hRd _ h;omega⟩
 case hstx=>
  rintro d X Y ⟨q,c,n1,n2,hi,h1,h2⟩ hx;exact⟨q,c,n1,n2,hIx _ _ _ _ _ hi (hx.mono λ_ h=>h.elim),hx.heap h1 (λh=>h),hx.heap h2 (λh=>h)⟩
 case hY=>
  rintro d x C W ⟨q,J,n1,n2,hi,ur,vf⟩ vx;have yk:l<W.heap.size:=(bj.1 ur).1;have yp:D<W.heap.size:=(bj.1 vf).1;have hy:=run_yield (P:=P) (args:=vj x) ur (by rw[ue];exact wx x);rw[ue] at hy;refine lL (m:=0) ⟨wg,_,assign,body,hy,roundIn_of_wpIn trivial (wpIn_mono (hround l d x q W (by omega) hi vx) ?_)⟩;intro e a₁ W₁ hq;cases e with
  |normal=>
   obtain⟨C₁,vm,xr,vh,xt⟩:=hq;have wj:=vh.heap ur n1;have xF:=vh.heap vf n2;have m1:¬C₁ l:=λh=>by rcases vm l h with h|h;exact n1 h;omega
   have m2:¬C₁ D:=λh=>by rcases vm D h with h|h;exact n2 h;omega
   refine⟨_,run_beginRound wj (by rw[ue]), ?_⟩;obtain⟨W₂,vy⟩:∃W₂,W₁.putObj l (.loop {G .ready tD with state:= .busy})=W₂:=⟨_,rfl⟩
   rw[vy];have uv:Ext (·=l) W₁ W₂:=by rw[<-vy];exact Ext.putObj _ _ _
   have xT:W₂.heap[l]?=tB (.loop {G .ready tD with state:= .busy}):=by rw[<-vy];exact World.putObj_heap_same (bj.1 wj).1
   have ya:W₂.heap[D]?=tB (.deferred (tB [])):=uv.heap xF (by omega);have yb:I d C₁ W₂:=hI _ _ _ _ xr (uv.mono λk hk=>by subst hk;exact⟨by omega,m1⟩);refine wpIn_mono (xt W₂ yb uv) ?_;have yd:Ext C W W₁:=vh.mono λk h=>(J k).2 (.inl h);have vp:∀(u:eA Code)(f:bx->Prop)(W₃:World),(∀k,f k->C₁ k\/W₂.heap.size<=k)->Ext C₁ W₂ W₃->
     (Instr.endRound l u).run P W₃= .ok (tU u.isNone) (W₃.putObj l (.loop (G (if u.isNone then .ready else .done) u)))/\
     (W₃.putObj l (.loop (G (if u.isNone then .ready else .done) u))).heap[l]?=tB (.loop (G (if u.isNone then .ready else .done) u))/\
     (W₃.putObj l (.loop (G (if u.isNone then .ready else .done) u))).heap[D]?=tB (.deferred (tB []))/\¬f l/\¬f D/\Ext C W (W₃.putObj l (.loop (G (if u.isNone then .ready else .done) u)))/\
     Ext (λk=>w.heap.size<=k/\¬f k) W₃ (W₃.putObj l (.loop (G (if u.isNone then .ready else .done) u)))/\(∀k,f k->q k\/W.heap.size<=k):=by
    intro u f W₃ uc ud;have wk:=ud.heap xT m1;have ye:=ud.heap ya m2;have A:=run_endRound (P:=P) u wk;rw[ue] at A⊢;have q1:¬f l:=λh=>by rcases uc l h with h|h;exact m1 h;have:=uv.size;have:=vh.size;omega
    have q2:¬f D:=λh=>by rcases uc D h with h|h;exact m2 h;have:=uv.size;have:=vh.size;omega
    refine⟨A,World.putObj_heap_same (bj.1 wk).1,(World.putObj_heap_other (by omega)).trans ye,q1,q2, ?_,(Ext.putObj _ _ _).mono (λk hk=>by subst hk;exact⟨by omega,q1⟩), ?_⟩
    ·refine((yd.trans uv (λj hj=> .inl ((J j).2 (by simp[hj])))).trans ud (λj hj=> ?_)).trans (Ext.putObj _ _ _) (λj hj=> .inl ((J j).2 (by simp[hj])))
     rcases vm j hj with h|h
     ·exact .inl ((J j).2 (.inl h))
     ·exact .inr h
    ·intro k hk
     rcases uc k hk with h|h
     ·exact vm k h
     ·right;have:=uv.size;have:=vh.size;omega
   intro e a3 W3 hp;cases e with
   |normal=>
    obtain⟨f,uc,ux,ud⟩:=hp;obtain⟨A,va,vc,q1,q2,vq,vd,vr⟩:=vp tD f W3 uc ud;refine⟨_,_,A,_,rfl,.inl ⟨rfl,λk=>f k\/k=l\/k=D,λk hk=> ?_,⟨f,λ_=>Iff.rfl,q1,q2,hI _ _ _ _ ux vd,va,vc⟩,vq⟩⟩;rcases hk with h|h|h
    ·rcases vr k h with h|h
     ·exact .inl ((J k).2 (.inl h))
     ·exact .inr h
    ·exact .inl ((J k).2 (by simp[h]))
    ·exact .inl ((J k).2 (by simp[h]))
   |ret=>
    obtain⟨f,uc,ux,ud⟩:=hp;obtain⟨A,va,vc,q1,q2,vq,vd,vr⟩:=vp (tB .ret) f W3 uc ud;exact⟨_,_,A,_,rfl,.inr ⟨rfl,f,.ret,q1,q2,hIx _ _ _ _ _ ux vd,va,vc⟩⟩
   |exit id=>
    obtain⟨f,uc,ux,ud⟩:=hp;obtain⟨A,va,vc,q1,q2,vq,vd,vr⟩:=vp (tB (.exit id)) f W3 uc ud;exact⟨_,_,A,_,rfl,.inr ⟨rfl,f,.exit id,q1,q2,hIx _ _ _ _ _ ux vd,va,vc⟩⟩
   |goto t=>
    obtain⟨f,uc,ux,ud⟩:=hp;obtain⟨A,va,vc,q1,q2,vq,vd,vr⟩:=vp (tB (.goto t)) f W3 uc ud;exact⟨_,_,A,_,rfl,.inr ⟨rfl,f,.goto t,q1,q2,hIx _ _ _ _ _ ux vd,va,vc⟩⟩
   |panic ch=>exact hp.elim
   |outgrown=>exact hp.elim
  |exit _=>exact hq.elim
  |goto _=>exact hq.elim
  |ret=>exact hq.elim
  |panic _=>exact hq.elim
  |outgrown=>exact hq.elim
 refine CallsIn.mono ((callsIn_wide (n:=0-1)).2 xp) ?_;rintro e W2 ⟨v,rfl,(⟨xs,hS,f,q,J,n1,n2,hi,ur,vf⟩|⟨d,vx,q,c,n1,n2,hi,ur,vf⟩)⟩
 ·have A:=run_endLoop (P:=P) ur (by rw[ue];simp)
  rw[ue] at A;refine⟨tD,_,A,hdone D xs q _ (by omega) n2 hS (hI _ _ _ _ hi ((Ext.putObj _ _ _).mono λk hk=>by subst hk;exact⟨by omega,n1⟩)) ((World.putObj_heap_other (by omega)).trans vf)⟩
 ·have A:=run_endLoop (P:=P) ur (by rw[ue];simp)
  rw[ue] at A;refine⟨tB c,_,A,pT.2 (hstop D c d q _ (by omega) n2 vx (hIx _ _ _ _ _ hi ((Ext.putObj _ _ _).mono λk hk=>by subst hk;exact⟨by omega,n1⟩)) ((World.putObj_heap_other (by omega)).trans vf))⟩
section
open Go.RowKit Go.Maps
theorem mU:Keyed ac 3:=int_keyed dj
theorem Dn (w:World):(zeroValue 4).run ac w= .ok (tU tG) w:=by kernel_rfl
structure H5 (D:DataW Unit)(S:bm bp):Prop where
 map:IsMap D
 at_:∀x:bp,D.atKey (.int .i64 x) (.lit (.bool tG))= .lit (.bool (decide (x∈S)))
 key:∀kl,tA D kl=tE->∃x,kl= .int .i64 x/\x∈S
 has:∀x∈S,tA D (.int .i64 x)=tE
def jR (w:World)(B n:bx)(S:bm bp):Prop:=∃D:DataW Unit,w.ownsMap ac 3 (mw ac 4) B n D/\H5 D S
theorem jR.made (w:World):jR (w.alloc (.map #[] 0)) w.heap.size 0 []:=
 ⟨.map [],World.ownsMap_made _ _ _ _,isMap_empty,λx=>by simp[DataW.atKey],λd h=>by simp[tA] at h,λx h=>by simp at h⟩
theorem jR.ext {w w':World}{B n:bx}{S:bm bp}{M:bx->Prop}(h:jR w B n S)(d:Ext M w w')(f:¬M B):jR w' B n S:=by
 obtain⟨D,⟨q,u,v,A⟩,G⟩:=h;exact⟨D,⟨q,u,d.heap v f,A⟩,G⟩
theorem jR.lt {w:World}{B n:bx}{S:bm bp}(h:jR w B n S):B<w.heap.size:=by
 obtain⟨D,d,f⟩:=h;exact d.lt
theorem lq {P:km}{e:gx}(d:P.underlying e=tB .bool){v:cd}{z:DataW Unit×bm od}(h:mw P e v=tB z):∃x,v= .bool x/\z=(.lit (.bool x),[]):=by
 unfold mw at h;rw[d] at h;cases v<;>simp at h;exact⟨_,rfl,h.symm⟩
theorem jR.look {w:World}{B n:bx}{S:bm bp}(h:jR w B n S){x:bp}(f: -9223372036854775808<=x/\x<=9223372036854775807):
  (gC 162 (.map (tB B)) (.int .i64 x) tG).run ac w= .ok (.bool (decide (x∈S))) w:=by
 obtain⟨D,q,u⟩:=h;obtain⟨v,J,A,G⟩:=q.lookup mU n8 (Dn w) (rk ii tG) (keyOf_int_mk dj (ms f));obtain⟨y,rfl,d⟩:=lq ii G;rw[u.at_ x] at d;simp only[cU,DataW.lit.injEq,Lit.bool.injEq] at d;rw[A,<-d.1]
theorem jR.add {w:World}{B n:bx}{S:bm bp}(h:jR w B n S){x:bp}(u: -9223372036854775808<=x/\x<=9223372036854775807)(hn:n<=1000000000):
  ∃w',(oE 162 (.map (tB B)) (.int .i64 x) (.bool tE)).run ac w= .ok () w'/\jR w' B (n+1) (x::S)/\Ext (·=B) w w':=by
 obtain⟨D,v,d⟩:=h;obtain⟨w',A,G,J⟩:=v.update mU n8 (by unfold dT;omega) (keyOf_int_mk dj (ms u)) (rk ii tE);refine⟨w',A,⟨_,G,d.map.put _ _,λy=> ?_,λq f=> ?_,λy hy=> ?_⟩,Ext.of_grown J (λk f=> .inl (by simpa using f.symm))⟩
 ·by_cases e:y=x
  ·subst e
   rw[atKey_put_same d.map (by simp[qn])];simp
  ·rw[atKey_put_other (by simpa using e),d.at_ y];simp[e]
 ·by_cases e:q= .int .i64 x
  ·exact⟨x,e,by simp⟩
  ·rw[has_put_other e] at f
   obtain⟨z,e1,e2⟩:=d.key q f;exact⟨z,e1,pn _ e2⟩
 ·by_cases e:y=x
  ·subst e
   exact has_put_same d.map (by simp[qn]) _
  ·rw[has_put_other (by simpa using e)]
   rcases fy.1 hy with h|h
   ·exact fW h e
   ·exact d.has y h
theorem Ah:∀(a b:bm bp),a.Pairwise (·<·)->b.Pairwise (·<·)->(∀x,x∈a↔x∈b)->a=b
 |[],[],_,_,_=>rfl
 |[],y::b,_,_,h=>by have:=(h y).2 (by simp);simp at this
 |x::a,[],_,_,h=>by have:=(h x).1 (by simp);simp at this
 |x::a,y::b,f,q,h=>by
  rw[List.pairwise_cons] at f q;have v:x=y:=by
   rcases fy.1 ((h x).1 (by simp)) with e|e
   ·exact e
   ·rcases fy.1 ((h y).2 (by simp)) with u|u
    ·exact u.symm
    ·have:=q.1 x e;have:=f.1 y u;omega
  subst v;congr 1;refine Ah a b f.2 q.2 λz=>⟨λd=> ?_,λd=> ?_⟩
  ·rcases fy.1 ((h z).1 (by simp[d])) with e|e
   ·subst e;have:=f.1 z d;omega
   ·exact e
  ·rcases fy.1 ((h z).2 (by simp[d])) with e|e
   ·subst e;have:=q.1 z d;omega
   ·exact e
end
section
open Go.RowKit Go.Maps
theorem FW {W:World}{g:bx}{o:Obj}(h:W.heap[g]?=tB o):g<W.heap.size:=(bj.1 h).1
structure BK where
 b:nj
def Dp (w:World)(v:cd)(S:bm bp):Prop:=(v= .map tD/\S=[])\/∃b n,v= .map (tB b)/\jR w b n S
theorem Dp.below {w w':World}{v:cd}{S:bm bp}(h:Dp w v S)(d:bh w.heap.size w w'):Dp w' v S:=by
 rcases h with h|⟨b,n,f,q⟩
 ·exact .inl h
 ·exact .inr ⟨b,n,f,q.ext (Ext.of_below_size (M:=λ_=>mb) d) (λh=>h)⟩
def GV (S d:bm bp):Prop:=d.Nodup/\∀x∈d,x∈S
def EG (S d:bm bp):Prop:=d.Nodup/\∀x,x∈d↔x∈S
def BN (x:bp):da cd:=#[Z U x]
def IV (D:bx)(v:cd)(k:bx):Prop:=k=D\/v= .map (tB k)
theorem BO {P:km}{w w':World}{H:Type}{kt:gx}{R:cd->eA (DataW H×bm od)}{b r n d:bx}{D:DataW H}{left:Lit->nj}{M:bx->Prop}(h:w.ranges P kt R b r n D left d)(f:Ext M w w')(q:¬M b)(u:¬M r):w'.ranges P kt R b r n D left d:=by
 obtain⟨v,A,G,seen,c0,J,h2,h3,h4,h5,h6⟩:=h;exact⟨v,A,G,seen,c0,f.heap J q,h2,h3,h4,f.heap h5 u,h6⟩
theorem BP (w:World)(D:bx)(v:cd)(S:bm bp)(u:w.heap[D]?=tB (.cells #[v] 162 (0,0)))(G:Dp w v S):
  Cw ac 163 #[.pointer (tB ⟨D,0,tD⟩)] BN (GV S) (EG S) (IV D v) w:=by
 intro l J Jx C W vi hst vx hstx vy hJ;have we:=zH vx;have vj:=zH hst;have HM:=zH vy;have HJ:=zH hJ;have yb:=G.below vi;have c0:W.cell? ⟨D,0,tD⟩=tB v:=by rw[cc _ _ _ _ _ _ ((vi.block D (FW u)).trans u)];rfl
 clear hst vx hstx vy hJ u vi G;simp only[List.append_toArray,jt,fc];rcases yb with⟨rfl,rfl⟩|⟨N,n,rfl,DD,vm,wg⟩
 ·have yd:cm (∃xs,EG [] xs/\∃A,J xs A (W.alloc (.mapIter tD 0 #[] 0))):=⟨[],⟨by simp,by simp⟩,C,vj.out _ _ _ _ HJ.out (Ext.of_below_size ((aq _ _).alloc (ce _) _))⟩
  have uv:=run_range_nilMap (P:=ac) W 162 3 4 n8;have zp:∀ty,(Instr.next (.pointer (tB ⟨W.heap.size,0,tD⟩)) tG ty).run ac (W.alloc (.mapIter tD 0 #[] 0))=_:=λty=>run_next_nilMap _ ty 0 0 #[];go_enter func163,ntmps163;go_wp2;refine wp_loop_rounds 1 ?_;rw[rounds_succ];go_wp2
  ((try simp only[db,Exit.then]);(try rw[iz]);(first|refine dv (fa rfl _ _ _) rfl ?_|refine kA (fa rfl _ _ _) rfl ?_));exact⟨_,rfl,.inl yd.out⟩
 ·obtain⟨RI,vp⟩:=zE W.heap.size
  have ye:N<RI:=by rw[<-vp];exact vm.lt
  have yi:cm (∀(d:bm bp) f W1,J d f W1->¬f N):=λd f W1 hj hc=>(we.out d f W1 hj N hc).2 (.inr rfl);have yk:cm (¬C RI):=λhc=>by have:=(we.out _ _ _ HJ.out RI hc).1;omega
  have yp:=zH vp;have wi:=zH wg;have zr:=zH ye;clear wg;go_enter func163,ntmps163
  go_wp2_with (first|(at_range;refine wpList_range_own _ rfl _ _ rfl _ _ mU n8 (mw ac 4) N n DD rfl vm ?_;intro w0 vq wj wk)|go_in)
  go_frame
  rw[vp] at vq wk⊢;have yq:cm (w0.ranges ac 3 (mw ac 4) N RI n DD (tA DD) (Maps.size DD)/\([]:bm bp).Nodup/\(∀z:bp,z∈([]:bm bp)↔z∈S/\tA DD (.int .i64 z)=tG)/\J [] C w0/\¬C RI/\RI<w0.heap.size):=by
   refine⟨vq,by simp,λz=>⟨λh=>by simp at h,λh=> ?_⟩,vj.out _ _ _ _ HJ.out (Ext.of_grown (M:=λk=>W.heap.size<=k/\¬C k) wj (λk hk=>by cases hk)),yk.out,by omega⟩;have:=wi.out.has z h.1;rw[this] at h;exact fW h.2 (by simp)
  clear vq wj wk vm c0
  go_loopw [3] (λ_ wq=>∃(left:Lit->nj) (ur:bx) (d:bm bp) (f:bx->Prop),wq.ranges ac 3 (mw ac 4) N RI n DD left ur/\d.Nodup/\(∀z:bp,z∈d↔z∈S/\left (.int .i64 z)=tG)/\J d f wq/\¬f RI/\RI<wq.heap.size) (λ_ wq=>wq.rangeLeft N RI)
  case atStart=>exact⟨_,_,[],C,yq.out⟩
  case round=>
   rename World=>wq;obtain⟨left,ur,d,f,uv,ux,uc,hj,ud,vc⟩:=hrel;have HI:=zH (And.intro ux (And.intro uc (And.intro hj (And.intro ud vc))));clear ux uc hj ud vc
   go_wp2_with (first|(at_next;refine wpList_next_ranges _ rfl _ rfl 3 mU (mw ac 4) (eE .i64) (λc:BK=>Value.bool c.b) (λkey kl vd=>by obtain⟨x,rfl,_⟩:=Maps.keyOf_int_inv dj vd;exact⟨x,rfl⟩) (λv y G=>by obtain⟨x,rfl,_⟩:=lq ii G;exact⟨⟨x⟩,rfl⟩) N RI n _ _ _ rfl uv ?_ ?_)|go_in)
   ·intro yr wl
    have HF:cm (∃xs,EG S xs/\∃A,J xs A wq):=⟨d,⟨HI.out.1,λx=>(HI.out.2.1 x).trans ⟨λh=>h.1,λh=>⟨h,wl _⟩⟩⟩,f,HI.out.2.2.1⟩
    clear yr wl uv;go_wp2
    ((try simp only[db,Exit.then]);(try rw[iz]);(first|refine dv (fa rfl _ _ _) rfl ?_|refine kA (fa rfl _ _ _) rfl ?_));exact⟨_,rfl,.inl HF.out⟩
   ·intro x c kl y1 y2 w1 ws vd wx G xf xj xl xo yv xp
    obtain⟨x',ex,rfl,yy⟩:=Maps.keyOf_int_inv dj vd;cases ex;obtain⟨ux,uc,hj,ud,vc⟩:=HI.out;have vr:x∈S:=by
     obtain⟨x',e1,e2⟩:=wi.out.key _ (has_true_of_atKey xf);cases e1;exact e2
    have xr:x∉d:=λhk=>by have:=((uc x).1 hk).2;rw[wx] at this;cases this
    have vu:J d f w1:=vj.out _ _ _ _ hj (Ext.of_grown (M:=λk=>W.heap.size<=k/\¬f k) xo (λk hk=> .inl (by cases hk;exact⟨by rw[yp.out];exact ce _,ud⟩)));have vf:GV S (d++[x]):=⟨by rw[lj];exact⟨ux,by simp,by intro a ha b hb;simp at hb;subst hb;rintro rfl;exact xr ha⟩,λy hy=>by
     rcases cT.1 hy with h|h
     ·exact((uc y).1 h).1
     ·rw[cH.1 h];exact vr⟩
    have xt:=zH (HM.out d x f w1 vu vf);unfold BN at xt;have yW:cm (∀(A:bx->Prop)(q:World),(∀k,A k->f k\/w1.heap.size<=k)->J (d++[x]) A q->Ext f w1 q->∃(left:Lit->nj) (ur:bx) (d:bm bp) (f:bx->Prop),(q.ranges ac 3 (mw ac 4) N RI n DD left ur/\ur=ws)/\d.Nodup/\(∀z:bp,z∈d↔z∈S/\left (.int .i64 z)=tG)/\J d f q/\¬f RI/\RI<q.heap.size):=λA q vh ue va=>by
     refine⟨_,ws,d++[x],A,⟨BO xj va (yi.out _ _ _ vu) ud,rfl⟩,vf.1,λz=> ?_,ue,λh=> ?_,by have:=va.size;omega⟩
     ·rw[cT,uc z,cH]
      constructor
      ·rintro(⟨u,h2⟩|rfl)
       ·exact⟨u,by rw[h2];rfl⟩
       ·exact⟨vr,by rw[WideAt.sameKey_self (by simp[qn])];simp⟩
      ·rintro⟨u,h2⟩
       by_cases e:left (.int .i64 z)=tE
       ·refine .inr ?_
        rw[e] at h2;simp only[Bool.true_and,Bool.not_eq_false'] at h2;have:=WideAt.sameKey_eq h2;cases this;rfl
       ·exact .inl ⟨u,by simpa using e⟩
     ·rcases vh RI h with h|h
      ·exact ud h
      ·omega
    have xF:wq.rangeLeft N RI=ur:=uv.left_eq;have xT:=zH (And.intro xF xl);have zc:=zH vf;clear vd wx G xf xj xo yv yy ux uc hj ud vc vr xr vu vf xF xl uv
    go_upto_region 3 with(fail)
    refine(pT (n:=0)).1 ?_;refine m8 (aB rfl (by simp) (.func (.yield l) #[] #[]) (w':=w1) (by simp[go_sem]) ?_);simp only[dk,aw,bt,bw];refine aB rfl (by simp) (.int .i64 x) (w':=w1) (by simp[go_sem]) ?_;simp only[dk,aw,bt,bw];refine eU (fv:= .func (.yield l) #[] #[]) (args:=#[.int .i64 x]) rfl (.tmp 10) #[.tmp 11] _ rfl rfl (by simp[Act.eval]) xt.out ?_;intro v q G;simp only[dk,aw,bt,bw];rcases G with⟨rfl,A,vh,ue,va⟩|⟨rfl,ue⟩
    ·refine aB rfl (by simp) (.bool tG) (w':=q) (by simp[go_sem]) ?_
     simp only[dk,aw,bt,bw];refine ju ?_;have HN:=zH (yW.out A q vh ue va);clear ue va vh xp;go_wp2;obtain⟨zd,zv,zj,C2,⟨u,rfl⟩,h2⟩:=HN.out;go_roundw
     case rel=>exact⟨zd,_,zj,C2,u,h2⟩
     case measure=>rw[u.left_eq,xT.out.1];exact xT.out.2
    ·refine aB rfl (by simp) (.bool tE) (w':=q) (by simp[go_sem]) ?_
     simp only[dk,aw,bt,bw];refine ju ?_;have HF:cm (∃ya,GV S ya/\Jx ya q):=⟨_,zc.out,ue⟩
     clear ue xp;go_wp2
     ((try simp only[db,Exit.then]);(try rw[iz]);(first|refine dv (fa rfl _ _ _) rfl ?_|refine kA (fa rfl _ _ _) rfl ?_));exact⟨_,rfl,.inr HF.out⟩
theorem mD (w:World)(v:cd)(d:∃r,v= .map r):
  gd ac 123 #[v] w λe w'=>e= ub (.func (.func 163) #[] #[tR (tB ⟨w.heap.size,0,tD⟩)])/\w.alloc (ua #[v] 162)=w':=by
 obtain⟨r,rfl⟩:=d;have f:∀(fn:Go.Fn)(first cap:da cd)(w:World),(Instr.makeFunc fn first cap).run ac w= .ok (.func fn first cap) w:=λ_ _ _ _=>rfl;go_enter func123,ntmps123;go_wp2;go_ret;exact⟨rfl,rfl⟩
end
section
open Go.Shelf Go.Proofs
def EH:Go.Shelf.Ren:=⟨λ|125=>202|128=>238|129=>239|189=>162|215=>259|216=>235|257=>201|294=>229|295=>230|296=>231|297=>232|298=>233|299=>234|300=>236|301=>237|328=>254|329=>255|330=>256|331=>257|332=>258|343=>271|n=>n,λ|0=>0|3=>3|4=>4|5=>5|9=>9|28=>35|46=>299|51=>327|53=>245|131=>172|182=>320|183=>321|218=>337|222=>341|228=>349|229=>350|n=>n,λ|n=>n⟩
theorem wM:Go.Proofs.Lays.n189 ac EH:={
 mixed:=by kernel_rfl
 f125:=func202.trans (eM tB (by kernel_rfl))
 f128:=func238.trans (eM tB (by kernel_rfl))
 f129:=func239.trans (eM tB (by kernel_rfl))
 f189:=func162.trans (eM tB (by kernel_rfl))
 f215:=func259.trans (eM tB (by kernel_rfl))
 f216:=func235.trans (eM tB (by kernel_rfl))
 f257:=func201.trans (eM tB (by kernel_rfl))
 f294:=func229.trans (eM tB (by kernel_rfl))
 f295:=func230.trans (eM tB (by kernel_rfl))
 f296:=func231.trans (eM tB (by kernel_rfl))
 f297:=func232.trans (eM tB (by kernel_rfl))
 f298:=func233.trans (eM tB (by kernel_rfl))
 f299:=func234.trans (eM tB (by kernel_rfl))
 f300:=func236.trans (eM tB (by kernel_rfl))
 f301:=func237.trans (eM tB (by kernel_rfl))
 f328:=func254.trans (eM tB (by kernel_rfl))
 f329:=func255.trans (eM tB (by kernel_rfl))
 f330:=func256.trans (eM tB (by kernel_rfl))
 f331:=func257.trans (eM tB (by kernel_rfl))
 f332:=func258.trans (eM tB (by kernel_rfl))
 f343:=func271.trans (eM tB (by kernel_rfl))
 t0:=underlying0
 a0:=Tryz.isAgg0
 z0:=Tryz.sizeOf0
 v0:=Tryz.zeroValue0
 t3:=dj
 a3:=Tryz.isAgg3
 z3:=Tryz.sizeOf3
 v3:=Tryz.zeroValue3
 t4:=ii
 a4:=Tryz.isAgg4
 z4:=Tryz.sizeOf4
 v4:=Tryz.zeroValue4
 t5:=underlying5
 a5:=Tryz.isAgg5
 z5:=Tryz.sizeOf5
 v5:=Tryz.zeroValue5
 t9:=im
 a9:=Tryz.isAgg9
 z9:=Tryz.sizeOf9
 v9:=Tryz.zeroValue9
 t28:=iu
 a28:=Tryz.isAgg35
 z28:=Tryz.sizeOf35
 v28:=Tryz.zeroValue35
 t46:=underlying299
 a46:=Tryz.isAgg299
 z46:=Tryz.sizeOf299
 v46:=Tryz.zeroValue299
 t51:=underlying327
 a51:=Tryz.isAgg327
 z51:=Tryz.sizeOf327
 v51:=Tryz.zeroValue327
 t53:=underlying245
 a53:=Tryz.isAgg245
 z53:=Tryz.sizeOf245
 v53:=Tryz.zeroValue245
 t131:=underlying172
 a131:=Tryz.isAgg172
 z131:=Tryz.sizeOf172
 v131:=Tryz.zeroValue172
 t182:=underlying320
 a182:=Tryz.isAgg320
 z182:=Tryz.sizeOf320
 v182:=Tryz.zeroValue320
 t183:=underlying321
 a183:=Tryz.isAgg321
 z183:=Tryz.sizeOf321
 v183:=Tryz.zeroValue321
 t218:=underlying337
 a218:=Tryz.isAgg337
 z218:=Tryz.sizeOf337
 v218:=Tryz.zeroValue337
 t222:=underlying341
 a222:=Tryz.isAgg341
 z222:=Tryz.sizeOf341
 v222:=Tryz.zeroValue341
 t228:=underlying349
 a228:=Tryz.isAgg349
 z228:=Tryz.sizeOf349
 v228:=Tryz.zeroValue349
 t229:=underlying350
 a229:=Tryz.isAgg350
 z229:=Tryz.sizeOf350
 v229:=Tryz.zeroValue350}
open Go.RowKit Go.Lib Go.Sort in
theorem Dq (d h cap:bx)(f:bm bp)(w:World)(q:Holds (eE .i64) w d h f.toArray)(u:d<w.heap.size)(v:f.length<4611686018427387904):
  gd ac 162 #[tP (tB ⟨d,h,tD⟩) f.length cap] w λe w'=>
   e= ub (.tuple #[])/\∃n os,w'=grow (putRow (eE .i64) (Sort.ahead w n) d h (f.mergeSort λx y=>decide (x<=y)).toArray) os:=Any.slices_Sort_int wM d h cap f w q u v
end
section
open Go.RowKit Go.Maps
private theorem sI (p:Tmp)(v:cd)(t:da cd):((#[p]:da Tmp).zip #[v]).foldl (λt (p,v)=>t.setIfInBounds p v) t=t.setIfInBounds p v:=by simp
theorem sW {P:km}{n:bx}{ops:da ke}{rest:bm ke}{o:ke}{a:Act}{w w':World}{Q:Exit->Act->World->Prop}{r:eA bx}(d:o.guard=tD)(f:∀c,o.op≠ .defer c)
  (q:(execOp a.eval o).run P w= .ok .skip w')(h:tm {ge with round:=r} n P ops Q rest (a.put o.dst undef) w'):tm {ge with round:=r} n P ops Q (o::rest) a w:=
 wpListIn_plain d λ_ u=>by
  refine⟨λ_ _=>trivial, ?_⟩;rw[Oper.semAt_eq _ _ _ f,q];exact u _ _ h
theorem oV {w w':World}{B n cap:bx}{d:eA Addr}{xs:bm bp}{M:bx->Prop}(h:aT w B (tP d n cap) xs)(q:Ext M w w')(u:∀k,(co d n cap).ownBlock=tB k->¬M k):aT w' B (tP d n cap) xs:=by
 refine⟨h.1, ?_⟩;rcases h.2 with v|⟨g,A,cur,f,D,G,J⟩
 ·exact .inl v
 ·exact .inr ⟨g,A,cur,f,D,q.heap G (u g (by rw[f];rfl)),J⟩
def IJ (Bs:bx)(w:World)(d:bm bp)(C:bx->Prop)(W:World):Prop:=
 ∃f cap,W.heap[Bs]?=tB (ua #[tP f d.length cap] 35 (0,0))/\aT W (Bs+1) (tP f d.length cap) d/\(∀k,C k↔k=Bs\/(co f d.length cap).ownBlock=tB k)/\Ext (Bs<=·) w W
theorem yu (w:World){gf:bx}{lb:da cd}{fn:Func}{fb:Code}(hf:ac.funcs[gf]?=tB fn)(wj:(fn.name=="runtime.NumGoroutine")=tG)(wk:fn.body=tB fb)
  {vh S:bm bp->Prop}{Rd:bx->Prop}{w0:World}(wl:Cw ac gf lb BN vh S Rd w0)(uv:bh w0.heap.size w0 w)(hRd:∀k,Rd k->k<w.heap.size)(ws:∀xs,vh xs->xs.length<=1000000):
  gd ac 200 #[tP tD 0 0,.func (.func gf) #[] lb] w λe w'=>∃xs f cap,S xs/\e= ub (tP f xs.length cap)/\aT w' w.heap.size (tP f xs.length cap) xs/\bh w.heap.size w w':=by
 obtain⟨Bs,G⟩:=zE w.heap.size;obtain⟨W1,uc⟩:=zE (w.alloc (ua #[tP tD 0 0] 35));have ux:=iV uc G;have vi:W1.heap[Bs]?=tB (ua #[tP tD 0 0] 35 (0,0)):=by rw[<-uc,<-G];exact alloc_at _ _
 have vj:W1.heap.size=Bs+1:=by rw[<-uc];simp[G]
 have wx:=zH ux;have xf:=zH vi;have va:=zH vj;have vm:=zH uc;have xj:cm (bh w0.heap.size w0 W1):=uv.trans (ux.mono (by rw[<-G];exact uv.size));have vc:cm (∀k,Rd k->k<Bs):=λk d=>by rw[<-G];exact hRd k d
 have xl:=zH G;clear ux vi uc uv hRd vj
 (refine jD func200 rfl ?_
  simp only[ntmps200,List.size_toArray,fS,mp,Nat.reduceAdd,Nat.reduceSub,Array.replicate_succ,
   Array.replicate_zero,List.push_toArray,List.append_toArray,fc,jt])
 go_upto_region 1 with(fail)
 rw[vm.out];clear vm;(try rw[G]);clear G
 go_wp2_with fail
 refine oU (gf:=gf) rfl hf wj wk wl xj.out ?hRd (λ_=>rfl) (IJ Bs W1) (λ_ _ _ _=>mb) ?hI ?hIC (λ_ _ _ _ _ h _=>h.elim) (·=Bs) ?h0 ?hround ?hdone (λ_ _ _ _ _ _ _ _ h _=>h.elim)
 case hRd=>intro k d;have:=vc.out k d;have:=va.out;omega
 case hI=>
  rintro q C W W' ⟨f,cap,A,h2,J,h4⟩ hx;refine⟨f,cap,hx.heap A (λh=>h.2 ((J _).2 (.inl rfl))),oV h2 hx (λk d h=>h.2 ((J _).2 (.inr d))),J,h4.trans hx (λj hj=> .inl (by have:=va.out;omega))⟩
 case hIC=>
  rintro q C W ⟨f,cap,A,h2,J,h4⟩ k d;rcases(J k).1 d with rfl|h
  ·exact⟨(bj.1 A).1,λh=>by have:=vc.out _ h;omega⟩
  ·have:=h2.lt k h
   exact⟨this.2,λh=>by have:=vc.out _ h;omega⟩
 case h0=>exact⟨tD,0,xf.out,aT.nil _ _,λk=>by simp[eJ],Ext.refl _ _⟩
 case hround=>
  rintro l q x C W hl hI xo;have xp:=ws _ xo;rw[cw,ie] at xp;rw[show BN x=#[Z U x] from rfl];rw[sI];simp only[aw,bt,bw];refine m8 (aB rfl (by simp) (Z U x) (w':=W) (by simp[go_sem]) ?_);simp only[dk,aw,bt,bw];refine ju ⟨_,λk d=> .inl d,hI,Ext.refl _ _, ?_⟩;rintro v ⟨f,cap,g1,g2,g3,g4⟩ yr;have hv:v.cell? ⟨Bs,0,tD⟩=tB (tP f q.length cap):=by rw[cc _ _ _ _ _ _ g1];rfl
  have yv:Bs<v.heap.size:=(bj.1 g1).1;obtain⟨i0,xr,xt,xF,xT⟩:=gA oh;obtain⟨W3,vd⟩:=zE (v.alloc (ua #[Z U x] 3));have ud:Ext (λ_=>mb) v W3:=by rw[<-vd];exact(Ext.refl _ _).alloc _
  have ya:aT W3 (Bs+1) (tP f q.length cap) q:=oV g2 ud (λ_ _ h=>h);have yb:∀j u,[eE .i64 x][j]?=tB u->W3.cell? ((⟨v.heap.size,0,tD⟩:Addr).add j)=tB u:=by rw[<-vd];exact cell_one_new _ _ _
  refine wpIn_block (m8 (aB rfl (by simp) (tP f q.length cap) (w':=v) (by simp[go_sem,hv]) ?_));simp only[dk,aw,bt,bw];refine aB rfl (by simp) (Z U x) (w':=v) (by simp[go_sem]) ?_;simp only[dk,aw,bt,bw];refine aB rfl (by simp) (tP (tB ⟨v.heap.size,0,tD⟩) 1 1) (w':=W3) (by rw[<-vd];go_simp) ?_;simp only[dk,aw,bt,bw];refine wpListIn_append_own_at (w:=W3) rfl (.tmp 8) (.tmp 10) 35 rfl (Bs+1) 3 i0 _ 1 8 iu xr xt xF xT rfl (by decide) (tP f q.length cap) q.length (q.map (eE .i64)) rfl ya ⟨v.heap.size,0,tD⟩ 1 1 [Z U x] rfl rfl yb (by simp[cj]) (by unfold dT;omega) (by omega) (by have:=ud.size;omega) ?_;intro v9 w9 vp yd _ ye;obtain⟨a9,c9,yi⟩:∃a9 c9,v9= tP a9 (q.length+1) c9:=by
   rcases vp.2 with⟨A,h2⟩|⟨_,_,_,A,_⟩
   ·omega
   ·exact⟨_,_,A⟩
  subst yi;have vf:∀k,(co f q.length cap).ownBlock=tB k->Bs+1<=k/\k<v.heap.size:=λk d=>g2.lt k d;have vq:Ext (λk=>(co f q.length cap).ownBlock=tB k) v w9:=(ud.mono (λ_ h=>h.elim)).trans (Ext.of_grown (M:=λk=>(co f q.length cap).ownBlock=tB k) yd (λk d=> .inl (by simpa using d))) (λj hj=> .inl hj);have ue:w9.heap[Bs]?=tB (ua #[tP f q.length cap] 35 (0,0)):=vq.heap g1 (λh=>by have:=(vf _ h).1;omega);have yy:=(bj.1 ue).1;have yk:w9.cell? ⟨Bs,0,tD⟩=tB (tP f q.length cap):=by rw[cc _ _ _ _ _ _ ue];rfl
  have yp:w9.frozen? ⟨Bs,0,tD⟩=tG:=eq _ _ _ _ _ ue;simp only[dk,aw,bt,bw];have vr:Ext (·=Bs) w9 (w9.setCell ⟨Bs,0,tD⟩ (tP a9 (q.length+1) c9)):=Ext.set1 _ _ _ _;refine sW rfl (by simp) (w':=w9.setCell ⟨Bs,0,tD⟩ (tP a9 (q.length+1) c9)) (by simp[go_sem,yk,yp]) ?_;refine ju ?_;have vu:∀k,(co a9 (q.length+1) c9).ownBlock=tB k->(co f q.length cap).ownBlock=tB k\/v.heap.size<=k:=λk d=>by
   rcases ye with h|h
   ·exact .inl (by rw[<-h];exact d)
   ·rw[d] at h
    have:=cD h;have:=ud.size;exact .inr (by omega)
  have vx:Ext C v (w9.setCell ⟨Bs,0,tD⟩ (tP a9 (q.length+1) c9)):=(vq.mono (λk d=>(g3 k).2 (.inr d))).trans vr (λj hj=> .inl ((g3 j).2 (.inl hj)));refine⟨λk=>k=Bs\/(co a9 (q.length+1) c9).ownBlock=tB k,λk d=> ?_,⟨a9,c9, ?_, ?_,λk=> ?_, ?_⟩,vx⟩
  ·rcases d with h|h
   ·exact .inl ((g3 k).2 (.inl h))
   ·rcases vu k h with h|h
    ·exact .inl ((g3 k).2 (.inr h))
    ·exact .inr h
  ·rw[cw,ie]
   exact bk w9 Bs 0 _ _ _ ue
  ·rw[cw,ie]
   exact oV (aT.app vp) vr (λk d e=>by
    subst e;rcases vu _ d with h|h
    ·have:=(vf _ h).1;omega
    ·omega)
  ·rw[cw,ie]
  ·exact g4.trans vx (λj hj=>by
    rcases(g3 j).1 hj with h|h
    ·exact .inl (by omega)
    ·exact .inl (by have:=(vf _ h).1;omega))
 case hdone=>
  rintro D xs C W hD vy hS ⟨f,cap,A,h2,J,h4⟩ we;have hv:W.cell? ⟨Bs,0,tD⟩=tB (tP f xs.length cap):=by rw[cc _ _ _ _ _ _ A];rfl
  have HD:=zH we;have HR:cm (∀w',Ext (·∈[D]) W w'->∃ur wg wi,S ur/\sE (tP f xs.length cap)= ub (tP wg ur.length wi)/\aT w' w.heap.size (tP wg ur.length wi) ur/\bh w.heap.size w w'):=by
   intro w' hx;rw[xl.out];refine⟨xs,f,cap,hS,rfl,(oV h2 hx (λk d h=> ?_)).mono (ip _), ?_⟩
   ·have:k=D:=by simpa using h
    subst this;exact vy ((J _).2 (.inr d))
   ·have hs:=va.out
    have yq:Ext (Bs<=·) W1 w':=h4.trans hx (λj hj=> .inr (by rw[cH.1 hj];exact hD));exact wx.out.trans (yq.below (by omega) (λk d=>d))
  clear A h2 J h4 we vy hS;dsimp only
  go_wp2_with fail
  exact⟨[D],rfl,by simp,by intro b hb;simp at hb;subst hb;exact HD.out,tP f xs.length cap,λw' hx=>⟨results_tmp (t:=4) rfl _ _ _,HR.out w' hx⟩⟩
def fI (xs:bm bp):bm bp:=xs.mergeSort λx y=>decide (x<=y)
def EI (S:bm bp->Prop)(w:World)(e:Ending)(w':World):Prop:=
 ∃xs d cap,S xs/\e= ub (tP d xs.length cap)/\aT w' w.heap.size (tP d xs.length cap) (fI xs)/\bh w.heap.size w w'
theorem yw (w:World){gf:bx}{lb:da cd}{fn:Func}{fb:Code}(hf:ac.funcs[gf]?=tB fn)(ud:(fn.name=="runtime.NumGoroutine")=tG)(ue:fn.body=tB fb)
  {uc S:bm bp->Prop}{Rd:bx->Prop}{G:World}(ur:Cw ac gf lb BN uc S Rd G)(uv:bh G.heap.size G w)(hRd:∀k,Rd k->k<w.heap.size)(ux:∀xs,uc xs->xs.length<=1000000)(hS:∀xs,S xs->xs.length<=1000000):
  gd ac 122 #[.func (.func gf) #[] lb] w (EI S w):=by
 have HA:=zH (yu w hf ud ue ur uv hRd ux);have HC:cm (gd ac 161 #[.func (.func gf) #[] lb] w λe w'=>∃xs h cap,S xs/\e= ub (tP h xs.length cap)/\aT w' w.heap.size (tP h xs.length cap) xs/\bh w.heap.size w w'):=by
  unfold cm;go_enter func161,ntmps161
  go_wp2_with (go_at_call 200;refine HA.out.mono ?_;rintro e w2 ⟨xs,h,cap,q,rfl,u,v⟩;have d:=zH (And.intro q (And.intro u v));clear q u v)
  go_ret;exact⟨xs,h,cap,d.out.1,rfl,d.out.2.1,d.out.2.2⟩
 clear HA;have HS:=zH hS;go_enter func122,ntmps122
 go_upto_region 2 with(go_at_call 161;refine HC.out.mono ?_;rintro e w2 ⟨xs,h,cap,q,rfl,u,v⟩;have d:=zH (And.intro q (And.intro u v));clear q u v)
 rcases d.out.2.1.2 with⟨A,h0⟩|⟨g,vf,cur,e1,e2,D,e4,e5,e6,e7⟩
 ·have hx:xs=[]:=du h0
  subst hx;simp only[gj] at A;obtain⟨rfl,_,rfl⟩:=A;have J:=zH (Any.slices_Sort_int_none wM tD 0 w2)
  go_wp2_with (go_at_call 162;refine J.out.mono ?_;rintro e w3 ⟨rfl,rfl⟩)
  go_ret;have e0:fI []=[]:=by simp[fI]
  exact⟨[],tD,0,d.out.1,rfl,(by rw[e0];exact d.out.2.1),d.out.2.2⟩
 ·cases e1
  have va:g<w2.heap.size:=(bj.1 D).1;have vh:=HS.out xs d.out.1;have J:=zH (Dq g 0 cap xs w2 (holds_of_blockI D (by simpa using e7)) va (by omega));have vc:cm (∀(f:bx)(os:da Obj),aT (Go.Sort.grow (Go.Sort.putRow (eE .i64) (Sort.ahead w2 f) g 0 (xs.mergeSort λx y=>decide (x<=y)).toArray) os) w.heap.size (tP (tB ⟨g,0,tD⟩) xs.length cap) (fI xs)):=by
   intro f os;have A:=ownsRow_sortedI (w:=w2) (base:=w.heap.size) (g:=g) (cap:=cap) (n:=f) (e:=3) (os:=os) (cur:=cur) (ss:=xs) (ts:=fI xs) (by unfold fI;rw[ox]) (by omega) D e4 e5 e6;unfold aT;have e:(fI xs).length=xs.length:=by unfold fI;rw[ox]
   rw[e];exact A
  have vd:cm (∀(f:bx)(os:da Obj),bh w.heap.size w (Go.Sort.grow (Go.Sort.putRow (eE .i64) (Sort.ahead w2 f) g 0 (xs.mergeSort λx y=>decide (x<=y)).toArray) os)):=by
   intro f os;exact d.out.2.2.trans ((Ext.of_grown (M:=(w.heap.size<=·)) (grownBy_sortedI (w:=w2) (g:=g) (n:=f) (os:=os) _) (λk hk=> .inl (by cases hk;show w.heap.size<=g;omega))).below d.out.2.2.size (λk hk=>hk))
  clear D e7
  go_wp2_with (go_at_call 162;refine J.out.mono ?_;rintro e w9 ⟨rfl,f,os,vi⟩)
  go_ret;exact⟨xs,tB ⟨g,0,tD⟩,cap,d.out.1,rfl,vc.out f os,vd.out f os⟩
end
section
open Go.RowKit Go.Maps
theorem H9:laidOutB ac=tE:=by kernel_rfl
theorem FX:(164:gx)<ac.types.size:=qe (by kernel_rfl)
theorem EJ:ac.keyTypeAt 2 164=tE:=by kernel_rfl
theorem Dr:Keyed ac 164:=Keyed.of_law (deep_law_laid H9 (m:=2) (show 2+1<=10000 from Nat.le_of_ble_eq_true rfl) FX EJ (by rw[cX]))
def fO (x:bp):Prop:= -9223372036854775808<=x/\x<=9223372036854775807
def gT (n:Nd):Prop:=fO n.1/\fO n.2.1/\fO n.2.2
def kS (n:Nd):cd:= tW #[Z U n.1,Z U n.2.1,Z U n.2.2]
theorem BQ {n:Nd}(h:gT n):∃l,keyOf ac 164 (kS n)=tB l:=by
 have w1:=ms h.1;have w2:=ms h.2.1;have f:=ms h.2.2;have q:ac.keyType 164=tE:=by kernel_rfl
 have d:ac.cellsOf 164=3:=by kernel_rfl
 have u:ac.cellsOf 3=1:=by kernel_rfl
 obtain⟨m,v⟩:∃m,ac.types.size=m+1:=⟨ac.types.size-1,by have:0<ac.types.size:=qe (by kernel_rfl);omega⟩
 unfold keyOf kS;simp only[cX];rw[cR (by rw[q];simp[Value.formed,cX,d]),v];unfold Program.keyLits;simp only[cX,Value.cells];rw[cR ⟨by rw[d];rfl,by kernel_rfl⟩];simp[Program.keyLits,dj,u,w1,w2,f]
theorem kU:Dm ac 164 gT kS:=⟨Dr,λ_ h=>BQ h,λa b _ _ h=>by
 unfold kS at h;simp only[tW.injEq,Array.mk.injEq,tn,Value.int.injEq,true_and,pc] at h;exact Prod.ext h.1 (Prod.ext h.2.1 h.2.2)⟩
theorem sZ:(ac.info? 67).map (λi=>(i.zero,i.size,i.bytes))=tB (tB (tW #[Z U 0,Z U 0]),2,16):=by kernel_rfl
theorem BR:(ac.info? 164).map (λi=>(i.zero,i.size,i.bytes))=tB (tB (tW #[Z U 0,Z U 0,Z U 0]),3,24):=by kernel_rfl
theorem Ai:(ac.info? 213).map (λi=>(i.zero,i.size,i.bytes))=tB (tB (tW #[Z U 0,Z U 0,Z U 0,Z U 0,tU tG]),5,40):=by kernel_rfl
theorem tq:(ac.info? 215).map (λi=>(i.zero,i.size,i.bytes))=tB (tB (tW #[Z U 0,Z U 0,Z U 0,Z U 0]),4,32):=by kernel_rfl
def og (n:Nd):bm cd:=[Z U n.1,Z U n.2.1,Z U n.2.2]
def GX (t:Th):bm cd:=[Z U t.1,Z U t.2.1.1,Z U t.2.1.2.1,Z U t.2.1.2.2,tU t.2.2]
def EK (p:Nd×bx):bm cd:=[Z U p.1.1,Z U p.1.2.1,Z U p.1.2.2,Z U (p.2:bp)]
def pR (p:bp×bp):bm cd:=[Z U p.1,Z U p.2]
inductive PT
 |no|top|mh|mf|mg|si|td|set (n:Nd)|fl (n:Nd)|gl (n:Nd)
structure yx where
 siA:eA Addr
 siK:bx
 tdA:eA Addr
 tdC:bx
 hv:Nd->cd
 fv:Nd->cd
 gv:Nd->cd
def Cx (m:Mo)(HM FM GM:bx)(s:yx)(d f:bx):da cd:=
 #[tP m.sA m.ss.length m.sC,tP m.fA m.fs.length m.fC,tP s.siA d s.siK,.map (tB HM),.map (tB FM),.map (tB GM),tP s.tdA f s.tdC]
def qg (w:World)(tg:bx->PT)(H:bm (Nd×bx))(v:cd)(n:Nd):Prop:=
 (v= .map tD/\∀x,(n,x)∉H)\/∃b c S,v= .map (tB b)/\jR w b c S/\c<=H.length/\(∀z:bp,z∈S↔∃x:bx,z=(x:bp)/\(n,x)∈H)/\tg b= .set n
def tu (w:World)(B:bx)(tg:bx->PT)(e:gx)(d:bx)(v:cd)(l:bm cd)(k:bx)(t:PT):Prop:=
 ∃f cap,v= tP f k cap/\w.ownsRow B e d v k l/\∀j,v.ownBlock=tB j->tg j=t
structure Pm (T HM FM GM:bx)(m:Mo)(B:bx)(tg:bx->PT)(s:yx)(p:PS)(w:World):Prop where
 row:w.heap[T]?=tB (ua (Cx m HM FM GM s p.St.length p.td.length) 148 (0,0))
 hm:∃n,eH gT kS (.map tD) w HM n s.hv
 fm:∃n,eH gT kS (tP tD 0 0) w FM n s.fv
 gm:∃n,eH gT kS (tP tD 0 0) w GM n s.gv
 srow:w.ownsRow B 67 2 (tP s.siA p.St.length s.siK) p.St.length (p.St.flatMap pR)
 trow:w.ownsRow B 215 4 (tP s.tdA p.td.length s.tdC) p.td.length (p.td.flatMap EK)
 hs:∀n,gT n->qg w tg p.H (s.hv n) n
 fs:∀n,gT n->tu w B tg 164 3 (s.fv n) ((p.fl n).flatMap og) (p.fl n).length (.fl n)
 gs:∀n,gT n->tu w B tg 213 5 (s.gv n) ((p.gl n).flatMap GX) (p.gl n).length (.gl n)
 t1:tg T= .top
 t2:tg HM= .mh
 t3:tg FM= .mf
 t4:tg GM= .mg
 t5:∀k,(co s.siA p.St.length s.siK).ownBlock=tB k->tg k= .si
 t6:∀k,(co s.tdA p.td.length s.tdC).ownBlock=tB k->tg k= .td
 lo:∀k,tg k≠ .no->B<=k/\k<w.heap.size
 lS:p.St.length<=1000000
 lH:p.H.length<=500000000
 lT:p.td.length<=500000000
section
variable {T HM FM GM:bx}{m:Mo}{B:bx}{tg tg':bx->PT}{s:yx}{p p':PS}{w w' w1:World}{M:bx->Prop}{tg1:bx->PT}{Zk:PT->Prop}
theorem qg.ext {H:bm (Nd×bx)}{v:cd}{n:Nd}(h:qg w tg H v n)(f:Ext M w w')(q:∀k,M k->tg k≠ .set n):qg w' tg H v n:=by
 rcases h with h|⟨b,c,S,u,A,D,G,d⟩
 ·exact .inl h
 ·exact .inr ⟨b,c,S,u,A.ext f (λJ=>q b J d),D,G,d⟩
theorem qg.tag {H:bm (Nd×bx)}{v:cd}{n:Nd}(h:qg w tg H v n)(f:∀k,tg k≠ .no->tg' k=tg k):qg w tg' H v n:=by
 rcases h with h|⟨b,c,S,q,u,A,D,d⟩
 ·exact .inl h
 ·exact .inr ⟨b,c,S,q,u,A,D,(f b (by rw[d];simp)).trans d⟩
theorem tu.ext {e:gx}{d k:bx}{v:cd}{l:bm cd}{t:PT}(h:tu w B tg e d v l k t)(q:Ext M w w')(u:∀k,M k->tg k≠t):tu w' B tg e d v l k t:=by
 obtain⟨A,cap,D,G,f⟩:=h;exact⟨A,cap,D,af G q (λj J hm=>u j hm (f j J)),f⟩
theorem tu.tag {e:gx}{d k:bx}{v:cd}{l:bm cd}{t:PT}(h:tu w B tg e d v l k t)(u:t≠ .no)(A:∀k,tg k≠ .no->tg' k=tg k):tu w B tg' e d v l k t:=by
 obtain⟨D,cap,G,J,f⟩:=h;exact⟨D,cap,G,J,λj q=>(A j (by rw[f j q];exact u)).trans (f j q)⟩
theorem Pm.grow (h:Pm T HM FM GM m B tg s p w)(v:bh w.heap.size w w'):Pm T HM FM GM m B tg s p w':=by
 have d:Ext (λ_=>mb) w w':=Ext.of_below_size v;exact⟨d.heap h.row (λh=>h),h.hm.imp λ_ q=>q.ext d (λh=>h),h.fm.imp λ_ q=>q.ext d (λh=>h),h.gm.imp λ_ q=>q.ext d (λh=>h),
  af h.srow d (λ_ _ h=>h),af h.trow d (λ_ _ h=>h),λn f=>(h.hs n f).ext d (λ_ h=>h.elim),λn f=>(h.fs n f).ext d (λ_ h=>h.elim),λn f=>(h.gs n f).ext d (λ_ h=>h.elim),
  h.t1,h.t2,h.t3,h.t4,h.t5,h.t6,λk u=>⟨(h.lo k u).1,bl (h.lo k u).2 d.size⟩,h.lS,h.lH,h.lT⟩
def bF (Zk:PT->Prop)(T HM FM GM:bx)(m:Mo)(B:bx)(tg:bx->PT)(p:PS)(w w':World):Prop:=
 ∃tg' s',Pm T HM FM GM m B tg' s' p w'/\Ext (λk=>tg k≠ .no/\¬Zk (tg k)) w w'/\(∀k,tg' k≠ .no->tg k≠ .no\/w.heap.size<=k)/\∀k,tg k≠ .no->tg' k=tg k
def ZA (t:PT):Prop:=(∃n,t= .fl n)\/∃n,t= .gl n
def ZF (t:PT):Prop:=∃n,t= .gl n
def Z0 (_:PT):Prop:=mb
theorem Pm.same (h:Pm T HM FM GM m B tg s p w)(d:bh w.heap.size w w'):bF Zk T HM FM GM m B tg p w w':=⟨tg,s,h.grow d,Ext.of_below_size d,λ_ f=> .inl f,λ_ _=>rfl⟩
theorem bF.weak {d:PT->Prop}(h:bF Zk T HM FM GM m B tg p w w')(u:∀t,d t->Zk t):bF d T HM FM GM m B tg p w w':=by
 obtain⟨tg1,s1,v,A,D⟩:=h;exact⟨tg1,s1,v,A.mono (λk f=>⟨f.1,λq=>f.2 (u _ q)⟩),D⟩
theorem bF.step (h:Ext (λk=>tg k≠ .no/\¬Zk (tg k)) w w1)(f:(∀k,tg1 k≠ .no->tg k≠ .no\/w.heap.size<=k)/\∀k,tg k≠ .no->tg1 k=tg k)(u:bF Zk T HM FM GM m B tg1 p' w1 w'):bF Zk T HM FM GM m B tg p' w w':=by
 obtain⟨v,A,D,G,J,b4⟩:=u;refine⟨v,A,D,h.trans G (λk d=> ?_),λk d=> ?_,λk d=> ?_⟩
 ·rcases f.1 k d.1 with q|q
  ·exact .inl ⟨q,by rw[<-f.2 k q];exact d.2⟩
  ·exact .inr q
 ·rcases J k d with q|q
  ·exact f.1 k q
  ·exact .inr (cY h.size q)
 ·have:=f.2 k d
  rw[<-this];exact b4 k (by rw[this];exact d)
theorem bF.below (d:bh w.heap.size w w1)(h:bF Zk T HM FM GM m B tg p w1 w'):bF Zk T HM FM GM m B tg p w w':=by
 obtain⟨tg',s',f,u,v,A⟩:=h;exact⟨tg',s',f,(Ext.of_below_size d).trans u (λq D=> .inl D),λk G=>(v k G).imp id (λh=>cY d.size h),A⟩
end
end
end Go.Proofs.YtjomgckjhcfbgaaGreat
