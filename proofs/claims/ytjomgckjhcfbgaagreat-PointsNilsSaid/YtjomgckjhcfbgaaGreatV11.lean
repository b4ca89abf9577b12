/- Walks. -/
import Derived.Maps.Own
import Derived.Maps.OwnOps
import Derived.Maps.Views
import Derived.Maps.RangeWalk
import Derived.Laws.IdiomRangeMap
import Derived.Test.YtjomgckjhcfbgaaGreatProg
import Derived.Shelf.Sort.Plain
import Derived.Shelf.Slices.In.SortNone
import Derived.Sort.OwnSortedInts
import Derived.Maps.OwnIn
import Derived.DeepKeys4
import Derived.Test.YtjomgckjhcfbgaaGreatV8
set_option maxRecDepth 100000
set_option maxHeartbeats 64000000
set_option linter.all false
namespace Go.Proofs.YtjomgckjhcfbgaaGreat
open Go.RowKit
open Go.Proofs.Tryz renaming prog→ac,underlying164→cq,underlying4→fh,underlying35→ft,underlying3→gt,underlying162→jx,underlying9→kA
open _root_.List renaming setIfInBounds_toArray→am,set_cons_zero→aE,set_cons_succ→bb,length_append→cm,mem_append_left→cn,mem_singleton→co,mem_append→cw,mem_of_getElem?→cA,mem_append_right→cR,flatMap_cons→cY,eq_nil_of_length_eq_zero→db,length_map→dd,flatMap_append→dk,length_cons→du,append_assoc→ef,mem_map→eh,nil_append→ev,length_singleton→eE,mem_cons→eR,cons_append→fN,mem_flatMap→gw,length_nil→gO,nodup_append→im,length_range→i8,flatMap_singleton→jz,range→ka,pairwise_iff_getElem→kb,append_nil→ki,mem_filter→lj,length_mergeSort→lx,append_toArray→mC,nodup_cons→nh
open Go.RowKit.Below renaming refl→an,heap_alloc→bt
open Go renaming heap_setCell_same→aq,Value→bo,cell_of_row→ci,bodyPost_ret→cP,maxLen→cX,results_none→de,frozen_of_row→dt,run_underlying→dT,Calls→et,TypeId→eJ,wpListIn_nil→fx,Oper→fY,bodyPost_end→gb,Program→gA,plainElem→ii,info_parts→iu,wpIn_region_lit→iS,MapEntry→jt,wpIn_wide→lB,plainElem_bool→mz,wpListIn→nw
open _root_.Array renaming getElem?_eq_some_iff→aw,replicate_succ→nb,replicate_zero→nd
open _root_ renaming List→bh,Nat→bw,Int→ct,if_neg→cy,Array→cC,if_pos→cQ,Option→dr,congrArg→dy,False→fW,absurd→gC,Bool→iv,of_decide_eq_true→lO,decide_eq_true_eq→lP
open Go.RowKit renaming Below→bj,Hid→cr
open Go.Value renaming slice→bk,oneCell'→bp,int→dv,ownBlock→eL,slice→ot,pointer→ox,bool→oy,agg→oA,int→Z
open _root_.Nat renaming le_refl→bl,lt_of_lt_of_le→cg,le_trans→cv,zero_add→cJ,zero_le→da,le_succ→fX,le_succ_of_le→mN
open Go.Exit renaming inBlock→cD,noGoto_ret→eM
open Go.Act renaming put→cE
open _root_.Option.some renaming inj→cN,injEq→fa
open _root_.Classical renaming byContradiction→ea
open Go.Result renaming andThen→eb
open Go.MapKept renaming run_getObj_map→ej,run_setObj_map→fL
open Go.Fence renaming wide→eq
open Go.Instr renaming lookup→ew,mapUpdate→kf,entryStore→mT,mapEntry→nB
open Go.Value.slice renaming injEq→ez
open _root_.Bool renaming and_eq_true→fk,true→oc,false→od
open Go.ChangeMaps renaming heap_setBlock_same→ge,setBlock→gj
open Go.WalkArith renaming wf_i64→g8
open _root_.Prod renaming snd→km
open _root_.Prod.mk renaming injEq→lR
open Go.WideAt renaming IsKeyLit→mb
open Go.Ending renaming returned→m7,returned→oE
open _root_.List.cons renaming injEq→nx
open Go.Maps renaming has→n8
open _root_.Option renaming some→oa,none→ob
open Go.Obj renaming cells→oB
open Go.IntKind renaming i64→U
open Tryz
theorem iW {α:Type}{f:α->ct}:∀{l:bh α},aW f l=0->∀x∈l,f x=0
 |[],_,x,b=>gC b (by simp)
 |y::r,h,x,b=>by
  unfold aW at h
  by_cases a:f y=0
  ·rw[cQ a] at h
   rcases eR.1 b with e|e
   ·rw[e];exact a
   ·exact iW h x e
  ·rw[cy a] at h;exact gC h a
theorem xG {b:iv}{f:ct}(hf:f≠0)(h:dS b f=0):b=oc:=by
 unfold dS at h;cases b with
 |true=>rfl
 |false=>rw[cy (by simp)] at h;exact gC h hf
theorem lW {m:Mo}(h:iT m=0):m.fs.length<=60/\m.ss.length<=30/\iR m=od/\(dO m).all m.known=oc/\(∀g∈m.fs,codeF m g=0)/\0<=m.fnIx eu:=by
 unfold iT at h
 by_cases f:30<m.ss.length\/60<m.fs.length
 ·rw[cQ f] at h;exact gC h (by decide)
 ·rw[cy f] at h
  by_cases b:iR m=oc
  ·rw[cQ b] at h;exact gC h (by decide)
  ·rw[cy b] at h
   by_cases d:(dO m).all m.known=od
   ·rw[cQ d] at h;exact gC h (by decide)
   ·rw[cy d] at h
    by_cases a:aW (codeF m) m.fs≠0
    ·rw[cQ a] at h;exact gC h a
    ·rw[cy a] at h
     have j:=xG (by decide) h;rw[fk,lP] at j;exact⟨by omega,by omega,by simpa using b,by simpa using d,iW (ea a),j.1⟩
theorem vN {m:Mo}{g:Fn}(h:codeF m g=0):g.vs.length<=300/\1<=g.c.ins.length/\g.c.ins.length<=3000/\0<=g.c.par/\g.c.par<=(g.vs.length:ct)/\(∀i∈g.c.ins,bZ m g i=0):=by
 unfold codeF at h
 by_cases b:300<g.vs.length\/g.c.ins.length<1\/3000<g.c.ins.length
 ·rw[cQ b] at h;exact gC h (by decide)
 ·rw[cy b] at h
  by_cases d:g.c.par<0\/(g.vs.length:ct)<g.c.par
  ·rw[cQ d] at h;exact gC h (by decide)
  ·rw[cy d] at h
   by_cases a:aW (bZ m g) g.c.ins≠0
   ·rw[cQ a] at h;exact gC h a
   ·exact⟨by omega,by omega,by omega,by omega,by omega,iW (ea a)⟩
abbrev Nd:=ct×ct×ct
abbrev Th:=ct×Nd×iv
def aX (f v:ct):Nd:=(f,v,-1)
def ma (f:ct):Nd:=(f,-1,-1)
def mi (x k:ct):Nd:=(-1,x,k)
inductive Lf (Bs:bh (Nd×bw)) (E:bh (Nd×Nd)) (Ts:bh (Nd×Th)):Nd->bw->Prop
 |base {n:Nd} {x:bw}:(n,x)∈Bs->Lf Bs E Ts n x
 |edge {a b:Nd} {x:bw}:(a,b)∈E->Lf Bs E Ts a x->Lf Bs E Ts b x
 |out {a d:Nd} {k:ct} {x y:bw}:(a,(k,d,od))∈Ts->Lf Bs E Ts a x->Lf Bs E Ts (mi x k) y->Lf Bs E Ts d y
 |into {a b:Nd} {k:ct} {x y:bw}:(a,(k,b,oc))∈Ts->Lf Bs E Ts a x->Lf Bs E Ts b y->Lf Bs E Ts (mi x k) y
theorem Lf.mono {d f:bh (Nd×bw)}{g j:bh (Nd×Nd)}{o q:bh (Nd×Th)}(v:∀p∈d,p∈f)(y:∀p∈g,p∈j)(u:∀p∈o,p∈q){n:Nd}{x:bw}(h:Lf d g o n x):Lf f j q n x:=by
 induction h with
 |base h=>exact .base (v _ h)
 |edge h _ ih=>exact .edge (y _ h) ih
 |out h _ _ a b=>exact .out (u _ h) a b
 |into h _ _ a b=>exact .into (u _ h) a b
def bf (x:bw)(t:Th):Nd×Nd:=if t.2.2=oc then(t.2.1,mi x t.1) else(mi x t.1,t.2.1)
theorem wR {Bs:bh (Nd×bw)}{E:bh (Nd×Nd)}{Ts:bh (Nd×Th)}{n:Nd}{t:Th}{x y:bw}(a:(n,t)∈Ts)(d:Lf Bs E Ts n x)(f:Lf Bs E Ts (bf x t).1 y):Lf Bs E Ts (bf x t).2 y:=by
 obtain⟨k,o,b⟩:=t;cases b with
 |true=>exact .into a d f
 |false=>exact .out a d f
abbrev XI:=ct×ct×Ins
def fZ (f g:ct):bw->bh ct->bh (Nd×Nd)
 |_,[]=>[]
 |n,a::r=>(aX f a,aX g (n:ct))::fZ f g (n+1) r
def nJ (f:ct)(i:Ins):bh (Nd×Nd):=
 if i.op=9 then[(aX f i.a,aX f i.d)] else if i.op=15 then fZ f i.f 0 i.args++[(ma i.f,aX f i.d)] else if i.op=18 then[(aX f i.a,ma f)] else[]
def kW (f:ct)(i:Ins):bh (Nd×Th):=
 if i.op=10 then[(aX f i.a,(i.f,aX f i.d,od))] else if i.op=11 then[(aX f i.a,(i.f,aX f i.b,oc))] else[]
def mq (f:ct)(i:Ins)(c:bw):bh (Nd×bw):=if i.op=12 then[(aX f i.d,c)] else[]
def nK (f k:ct)(i:Ins):bh (ct×ct):=if i.op=12 then[(f,k)] else[]
def aI (l:bh XI):bh (ct×ct):=l.flatMap λx=>nK x.1 x.2.1 x.2.2
def aJ (l:bh XI):bh (Nd×Nd):=l.flatMap λx=>nJ x.1 x.2.2
def cO (l:bh XI):bh (Nd×Th):=l.flatMap λx=>kW x.1 x.2.2
def aK:bw->bh XI->bh (Nd×bw)
 |_,[]=>[]
 |c,x::r=>mq x.1 x.2.2 c++aK (c+(nK x.1 x.2.1 x.2.2).length) r
theorem nL {x:XI}:∀(l:bh XI)(c:bw),aK c (l++[x])=aK c l++mq x.1 x.2.2 (c+(aI l).length)
 |[],c=>by simp[aK,aI]
 |y::r,c=>by
  rw[fN];unfold aK;rw[nL r,ef];congr 3;unfold aI;rw[cY,cm];omega
def dQ (f:ct):bw->bh Ins->bh XI
 |_,[]=>[]
 |k,i::r=>(f,(k:ct),i)::dQ f (k+1) r
def gV:bw->bh Fn->bh XI
 |_,[]=>[]
 |f,g::r=>dQ (f:ct) 0 g.c.ins++gV (f+1) r
def Mo.xi (m:Mo):bh XI:=gV 0 m.fs
theorem nM {f:ct}{i:Ins}:∀(l:bh Ins)(k:bw),dQ f k (l++[i])=dQ f k l++[(f,((k+l.length:bw):ct),i)]
 |[],k=>by simp[dQ]
 |x::r,k=>by
  rw[fN];unfold dQ;rw[nM r (k+1),du,show k+1+r.length=k+(r.length+1) by omega];rfl
theorem qo {g:Fn}:∀(l:bh Fn)(f:bw),gV f (l++[g])=gV f l++dQ ((f+l.length:bw):ct) 0 g.c.ins
 |[],f=>by simp[gV]
 |x::r,f=>by
  rw[fN];unfold gV;rw[qo r (f+1),ef,du,show f+1+r.length=f+(r.length+1) by omega]
theorem qp {f:ct}:∀(l:bh Ins)(k:bw),(dQ f k l).length=l.length
 |[],_=>rfl
 |_::r,k=>by unfold dQ;rw[du,du,qp r]
structure PS where
 St:bh (ct×ct)
 H:bh (Nd×bw)
 FL:bh (Nd×Nd)
 GL:bh (Nd×Th)
 td:bh (Nd×bw)
def PS.add (s:PS)(n:Nd)(x:bw):PS:=if (n,x)∈s.H then s else{s with H:=s.H++[(n,x)],td:=s.td++[(n,x)]}
def PS.addL (s:PS)(n:Nd)(l:bh bw):PS:=l.foldl (λs x=>s.add n x) s
def yX (a b:Nd)(s s':PS):Prop:=((a,b)∈s.FL/\s'=s)\/((a,b)∉s.FL/\∃l:bh bw,(∀x,x∈l↔(a,x)∈s.H)/\s'=({s with FL:=s.FL++[(a,b)]}:PS).addL b l)
def kX:bh (Nd×Nd)->PS->PS->Prop
 |[],s,s'=>s'=s
 |e::r,s,s'=>∃s1,yX e.1 e.2 s s1/\kX r s1 s'
def PS.start (s:PS)(f k:ct)(i:Ins):PS:=(mq f i s.St.length).foldl (λs p=>s.add p.1 p.2) {s with St:=s.St++nK f k i,GL:=s.GL++kW f i}
def Aw (f k:ct)(i:Ins)(s s':PS):Prop:=kX (nJ f i) (s.start f k i) s'
theorem kX.snoc {a b:Nd}{s1 d:PS}(f:yX a b s1 d):∀{l:bh (Nd×Nd)}{s:PS},kX l s s1->kX (l++[(a,b)]) s d
 |[],s,h=>by
  obtain rfl:s1=s:=h;exact⟨d,f,rfl⟩
 |e::r,s,⟨t,g,j⟩=>⟨t,g,kX.snoc f j⟩
theorem rT {s:PS}{n:Nd}{x:bw}:(n,x)∈(s.add n x).H:=by
 unfold PS.add
 by_cases h:(n,x)∈s.H
 ·rw[cQ h];exact h
 ·rw[cy h];simp
theorem iX {s:PS}{n:Nd}{x:bw}:(s.add n x).St=s.St/\(s.add n x).FL=s.FL/\(s.add n x).GL=s.GL/\
  ∃d,(s.add n x).H=s.H++d/\(s.add n x).td=s.td++d/\d.Nodup/\(∀p∈d,p∉s.H/\p.1=n/\p.2=x):=by
 unfold PS.add
 by_cases h:(n,x)∈s.H
 ·rw[cQ h];exact⟨rfl,rfl,rfl,[],by simp,by simp,by simp,by simp⟩
 ·rw[cy h]
  exact⟨rfl,rfl,rfl,[(n,x)],rfl,rfl,by simp,λp a=>by rw[co.1 a];exact⟨h,rfl,rfl⟩⟩
theorem gW {n:Nd}:∀(l:bh bw)(s:PS),(s.addL n l).St=s.St/\(s.addL n l).FL=s.FL/\(s.addL n l).GL=s.GL/\
  (∃d,(s.addL n l).H=s.H++d/\(s.addL n l).td=s.td++d/\d.Nodup/\∀p∈d,p∉s.H/\p.1=n/\p.2∈l)/\∀x∈l,(n,x)∈(s.addL n l).H
 |[],s=>⟨rfl,rfl,rfl,⟨[],by simp[PS.addL],by simp[PS.addL],by simp,by simp⟩,by simp⟩
 |x::r,s=>by
  obtain⟨u,v,A,d1,b,D,G,f⟩:=iX (s:=s) (n:=n) (x:=x);obtain⟨J,K,N,⟨d2,o,R,Y,a⟩,b8⟩:=gW (n:=n) r (s.add n x);have e:s.addL n (x::r)=(s.add n x).addL n r:=rfl;rw[e];refine⟨J.trans u,K.trans v,N.trans A,⟨d1++d2,by rw[o,b,ef],by rw[R,D,ef], ?_,λp g=> ?_⟩,λy j=> ?_⟩
  ·rw[im]
   exact⟨G,Y,λp g q hq e=>(a q hq).1 (by rw[b,<-e];simp[g])⟩
  ·rcases cw.1 g with h|h
   ·exact⟨(f p h).1,(f p h).2.1,by rw[(f p h).2.2];simp⟩
   ·refine⟨λh'=>(a p h).1 (by rw[b];simp[h']),(a p h).2.1,by simp[(a p h).2.2]⟩
  ·rcases eR.1 j with rfl|j
   ·rw[o];exact cn _ rT
   ·exact b8 y j
structure J1 (l:bh XI)(s:PS):Prop where
 st:s.St=aI l
 gl:s.GL=cO l
 fl:∀e,e∈s.FL↔e∈aJ l
 flN:s.FL.Nodup
 hN:s.H.Nodup
 td:s.td=s.H
 snd:∀p∈s.H,Lf (aK 0 l) (aJ l) (cO l) p.1 p.2
 bas:∀p∈aK 0 l,p∈s.H
theorem yY:J1 [] ⟨[],[],[],[],[]⟩:=⟨rfl,rfl,λe=>by simp[aJ],by simp,by simp,rfl,by simp,by simp[aK]⟩
theorem cu {α:Type}{a d:bh α}(b:a.Nodup)(f:d.Nodup)(h:∀p∈d,p∉a):(a++d).Nodup:=by
 rw[im];exact⟨b,f,λp g q j e=>h q j (by rw[<-e];exact g)⟩
structure AV (Bs:bh (Nd×bw))(E:bh (Nd×Nd))(Ts:bh (Nd×Th))(St:bh (ct×ct))(s:PS):Prop where
 st:s.St=St
 gl:s.GL=Ts
 fl:∀e,e∈s.FL↔e∈E
 flN:s.FL.Nodup
 hN:s.H.Nodup
 td:s.td=s.H
 snd:∀p∈s.H,Lf Bs E Ts p.1 p.2
 bas:∀p∈Bs,p∈s.H
theorem AV.flow {Bs:bh (Nd×bw)}{E:bh (Nd×Nd)}{Ts:bh (Nd×Th)}{St:bh (ct×ct)}{s s':PS}{a b:Nd}(h:AV Bs E Ts St s)(hf:yX a b s s'):AV Bs (E++[(a,b)]) Ts St s':=by
 have j:∀{n x},Lf Bs E Ts n x->Lf Bs (E++[(a,b)]) Ts n x:=λv=>v.mono (λ_ h=>h) (λ_ h=>cn _ h) (λ_ h=>h);rcases hf with⟨o,rfl⟩|⟨o,l,y,rfl⟩
 ·exact⟨h.st,h.gl,λe=>by
   rw[h.fl e,cw,co];exact⟨.inl,λA=>A.elim id (λD=>by rw[D];exact(h.fl _).1 o)⟩,h.flN,h.hN,h.td,λp f=>j (h.snd p f),h.bas⟩
 ·obtain⟨G,q,J,⟨d,g,K,N,u⟩,b8⟩:=gW (n:=b) l ({s with FL:=s.FL++[(a,b)]}:PS)
  refine⟨G.trans h.st,J.trans h.gl,λe=> ?_, ?_, ?_, ?_,λp f=> ?_,λp f=> ?_⟩
  ·rw[q,cw,cw,h.fl e]
  ·rw[q];exact cu h.flN (by simp) (λp f=>by rw[co.1 f];exact o)
  ·rw[g];exact cu h.hN N (λp f=>(u p f).1)
  ·rw[g,K];show s.td++d=s.H++d;rw[h.td]
  ·rw[g] at f
   rcases cw.1 f with f|f
   ·exact j (h.snd p f)
   ·obtain⟨_,R,Y⟩:=u p f
    rw[R];exact .edge (cR _ (by simp)) (j (h.snd (a,p.2) ((y _).1 Y)))
  ·rw[g];exact cn _ (h.bas p f)
theorem AV.flows {Bs:bh (Nd×bw)}{Ts:bh (Nd×Th)}{St:bh (ct×ct)}:∀{l:bh (Nd×Nd)}{E:bh (Nd×Nd)}{s s':PS},AV Bs E Ts St s->kX l s s'->AV Bs (E++l) Ts St s'
 |[],E,s,s',h,hf=>by
  obtain rfl:s'=s:=hf;rw[ki];exact h
 |e::r,E,s,s',h,⟨s1,a,b⟩=>by
  have:=(h.flow a).flows b;rw[ef] at this;exact this
theorem J1.step {l:bh XI}{s s':PS}{f k:ct}{i:Ins}(h:J1 l s)(u:Aw f k i s s'):J1 (l++[(f,k,i)]) s':=by
 have v:aI (l++[(f,k,i)])=aI l++nK f k i:=by simp[aI]
 have y:aJ (l++[(f,k,i)])=aJ l++nJ f i:=by simp[aJ]
 have A:cO (l++[(f,k,i)])=cO l++kW f i:=by simp[cO]
 have D:aK 0 (l++[(f,k,i)])=aK 0 l++mq f i (aI l).length:=by rw[nL,cJ]
 have G:AV (aK 0 (l++[(f,k,i)])) (aJ l) (cO (l++[(f,k,i)])) (aI (l++[(f,k,i)])) (s.start f k i):=by
  rw[v,A,D];have b:∀{n x},Lf (aK 0 l) (aJ l) (cO l) n x->Lf (aK 0 l++mq f i (aI l).length) (aJ l) (cO l++kW f i) n x:=λJ=>J.mono (λ_ h=>cn _ h) (λ_ h=>h) (λ_ h=>cn _ h);unfold PS.start;rw[<-h.st,<-h.gl] at*;unfold mq at b⊢
  by_cases j:i.op=12
  ·rw[cQ j]
   simp only[List.foldl_cons,List.foldl_nil];obtain⟨K,o,N,d,g,R,Y,q⟩:=iX (s:=({s with St:=s.St++nK f k i,GL:=s.GL++kW f i}:PS)) (n:=aX f i.d) (x:=s.St.length);rw[cQ j] at b;refine⟨K,N,λe=>by rw[o];exact h.fl e,by rw[o];exact h.flN, ?_, ?_,λp a=> ?_,λp a=> ?_⟩
   ·rw[g];exact cu h.hN Y (λp a=>(q p a).1)
   ·rw[g,R];show s.td++d=s.H++d;rw[h.td]
   ·rw[g] at a
    rcases cw.1 a with a|a
    ·exact b (by rw[h.gl];exact h.snd p a)
    ·obtain⟨_,q1,q2⟩:=q p a
     exact .base (cR _ (by rw[co];exact Prod.ext q1 q2))
   ·rcases cw.1 a with a|a
    ·rw[g];exact cn _ (h.bas p a)
    ·rw[co.1 a];exact rT
  ·rw[cy j] at b⊢
   refine⟨rfl,rfl,h.fl,h.flN,h.hN,h.td,λp a=>b (by rw[h.gl];exact h.snd p a),λp a=>h.bas p (by simpa using a)⟩
 have:=G.flows u;rw[<-y] at this;exact⟨this.st,this.gl,this.fl,this.flN,this.hN,this.td,this.snd,this.bas⟩
def PS.fl (s:PS)(n:Nd):bh Nd:=(s.FL.filter λe=>decide (e.1=n)).map km
def PS.gl (s:PS)(n:Nd):bh Th:=(s.GL.filter λe=>decide (e.1=n)).map km
theorem nN {s:PS}{n b:Nd}:b∈s.fl n↔(n,b)∈s.FL:=by
 unfold PS.fl;rw[eh];constructor
 ·rintro⟨e,a,d⟩
  rw[lj,lP] at a;have:e=(n,b):=Prod.ext a.2 d;rw[<-this];exact a.1
 ·intro h
  exact⟨(n,b),by rw[lj];exact⟨h,by simp⟩,rfl⟩
theorem yZ {s:PS}{n:Nd}{t:Th}:t∈s.gl n↔(n,t)∈s.GL:=by
 unfold PS.gl;rw[eh];constructor
 ·rintro⟨e,a,b⟩
  rw[lj,lP] at a;have:e=(n,t):=Prod.ext a.2 b;rw[<-this];exact a.1
 ·intro h
  exact⟨(n,t),by rw[lj];exact⟨h,by simp⟩,rfl⟩
structure J2 (Bs:bh (Nd×bw))(E:bh (Nd×Nd))(Ts:bh (Nd×Th))(St:bh (ct×ct))(n:Nd)(x:bw)(bs:bh Nd)(ts:bh Th)(s:PS):Prop where
 st:s.St=St
 gl:s.GL=Ts
 fle:∀e∈E,e∈s.FL
 flu:∀e∈s.FL,e∈E\/∃t∈Ts,∃y,Lf Bs E Ts t.1 y/\e=bf y t.2
 flN:s.FL.Nodup
 hN:s.H.Nodup
 tdN:s.td.Nodup
 tds:∀p∈s.td,p∈s.H
 snd:∀p∈s.H,Lf Bs E Ts p.1 p.2
 bas:∀p∈Bs,p∈s.H
 c4:∀e∈s.FL,∀y,(e.1,y)∈s.H->(e.1,y)∈s.td\/(e.2,y)∈s.H\/(e.1=n/\y=x/\e.2∈bs)
 c5:∀t∈Ts,∀y,(t.1,y)∈s.H->(t.1,y)∈s.td\/bf y t.2∈s.FL\/(t.1=n/\y=x/\t.2∈ts)
section
variable {Bs:bh (Nd×bw)}{E:bh (Nd×Nd)}{Ts:bh (Nd×Th)}{St:bh (ct×ct)}{n:Nd}{x:bw}{bs:bh Nd}{ts:bh Th}{s s':PS}
theorem J1.settled {l:bh XI}{s:PS}(h:J1 l s)(n:Nd)(x:bw):J2 (aK 0 l) (aJ l) (cO l) (aI l) n x [] [] s:=
 ⟨h.st,h.gl,λe a=>(h.fl e).2 a,λe a=> .inl ((h.fl e).1 a),h.flN,h.hN,by rw[h.td];exact h.hN,λp d=>by rw[<-h.td];exact d,h.snd,h.bas,
  λe _ y b=> .inl (by rw[h.td];exact b),λt _ y b=> .inl (by rw[h.td];exact b)⟩
theorem J2.pop {q:Nd}{u:bw}{td:bh (Nd×bw)}(h:J2 Bs E Ts St q u [] [] s)(f:s.td=td++[(n,x)]):J2 Bs E Ts St n x (s.fl n) (s.gl n) {s with td:=td}:=by
 have hN:=h.tdN;rw[f] at hN;refine⟨h.st,h.gl,h.fle,h.flu,h.flN,h.hN,(im.1 hN).1,λp v=>h.tds p (by rw[f];exact cn _ v),h.snd,h.bas,λe j y g=> ?_,λt o y g=> ?_⟩
 ·rcases h.c4 e j y g with a|a|⟨_,_,a⟩
  ·rw[f] at a
   rcases cw.1 a with b|b
   ·exact .inl b
   ·have:=co.1 b
    have d:e.1=n:=dy Prod.fst this;exact .inr (.inr ⟨d,dy km this,nN.2 (by rw[<-d];exact j)⟩)
  ·exact .inr (.inl a)
  ·exact gC a (by simp)
 ·rcases h.c5 t o y g with a|a|⟨_,_,a⟩
  ·rw[f] at a
   rcases cw.1 a with b|b
   ·exact .inl b
   ·have:=co.1 b
    have d:t.1=n:=dy Prod.fst this;exact .inr (.inr ⟨d,dy km this,yZ.2 (by rw[<-d,h.gl];exact o)⟩)
  ·exact .inr (.inl a)
  ·exact gC a (by simp)
theorem J2.more {d:bh (Nd×bw)}(h:J2 Bs E Ts St n x bs ts s)(A:s'.St=s.St)(g:s'.FL=s.FL)(D:s'.GL=s.GL)(f:s'.H=s.H++d)(j:s'.td=s.td++d)(o:d.Nodup)(u:∀p∈d,p∉s.H)(G:∀p∈d,Lf Bs E Ts p.1 p.2):J2 Bs E Ts St n x bs ts s':=by
 refine⟨A.trans h.st,D.trans h.gl,by rw[g];exact h.fle,by rw[g];exact h.flu,by rw[g];exact h.flN,by rw[f];exact cu h.hN o u, ?_,λp b=> ?_,λp b=> ?_,λp b=>by rw[f];exact cn _ (h.bas p b),λe v y a=> ?_,λt J y a=> ?_⟩
 ·rw[j];exact cu h.tdN o (λp b K=>u p b (h.tds p K))
 ·rw[j] at b
  rw[f];exact(cw.1 b).elim (λq=>cn _ (h.tds p q)) (λq=>cR _ q)
 ·rw[f] at b
  exact(cw.1 b).elim (h.snd p) (G p)
 ·rw[g] at v
  rw[f] at a⊢;rw[j];rcases cw.1 a with a|a
  ·rcases h.c4 e v y a with q|q|q
   ·exact .inl (cn _ q)
   ·exact .inr (.inl (cn _ q))
   ·exact .inr (.inr q)
  ·exact .inl (cR _ a)
 ·rw[f] at a
  rw[g,j];rcases cw.1 a with a|a
  ·rcases h.c5 t J y a with q|q|q
   ·exact .inl (cn _ q)
   ·exact .inr (.inl q)
   ·exact .inr (.inr q)
  ·exact .inl (cR _ a)
theorem J2.add {b:Nd}(h:J2 Bs E Ts St n x (b::bs) ts s)(v:(n,x)∈s.H)(j:(n,b)∈s.FL):J2 Bs E Ts St n x bs ts (s.add b x):=by
 obtain⟨G,J,K,d,N,R,Y,o⟩:=iX (s:=s) (n:=b) (x:=x);have hl:Lf Bs E Ts b x:=by
  rcases h.flu _ j with u|⟨t,u,y,h2,A⟩
  ·exact .edge u (h.snd _ v)
  ·have e1:(bf y t.2).1=n:=by rw[<-A]
   have e2:(bf y t.2).2=b:=by rw[<-A]
   rw[<-e2];exact wR (n:=t.1) (t:=t.2) u h2 (by rw[e1];exact h.snd _ v)
 have a:=h.more G J K N R Y (λp g=>(o p g).1) (λp g=>by rw[(o p g).2.1,(o p g).2.2];exact hl);refine⟨a.st,a.gl,a.fle,a.flu,a.flN,a.hN,a.tdN,a.tds,a.snd,a.bas,λe j y hy=> ?_,a.c5⟩;rcases a.c4 e j y hy with q|q|⟨q1,D,f⟩
 ·exact .inl q
 ·exact .inr (.inl q)
 ·rcases eR.1 f with f|f
  ·exact .inr (.inl (by rw[f,D];exact rT))
  ·exact .inr (.inr ⟨q1,D,f⟩)
theorem J2.flow {t:Th}(h:J2 Bs E Ts St n x [] (t::ts) s)(hx:(n,x)∈s.H)(ht:(n,t)∈s.GL)(hf:yX (bf x t).1 (bf x t).2 s s'):J2 Bs E Ts St n x [] ts s':=by
 have N:(n,t)∈Ts:=by rw[<-h.gl];exact ht
 have R:=h.snd _ hx;have oR:∀y,Lf Bs E Ts (bf x t).1 y->Lf Bs E Ts (bf x t).2 y:=λy a=>wR N R a;rcases hf with⟨G,rfl⟩|⟨G,l,Y,rfl⟩
 ·refine⟨h.st,h.gl,h.fle,h.flu,h.flN,h.hN,h.tdN,h.tds,h.snd,h.bas,h.c4,λu J y a=> ?_⟩
  rcases h.c5 u J y a with q|q|⟨K,v,g⟩
  ·exact .inl q
  ·exact .inr (.inl q)
  ·rcases eR.1 g with g|g
   ·exact .inr (.inl (by rw[g,v];exact G))
   ·exact .inr (.inr ⟨K,v,g⟩)
 ·have h0:∀y∈l,Lf Bs E Ts (bf x t).2 y:=λy a=>oR y (h.snd _ ((Y y).1 a))
  obtain⟨b1,o,b3,⟨d,j,A,b6,D⟩,b8⟩:=gW (n:=(bf x t).2) l ({s with FL:=s.FL++[((bf x t).1,(bf x t).2)]}:PS);obtain⟨s2,oS⟩:∃s2,({s with FL:=s.FL++[((bf x t).1,(bf x t).2)]}:PS).addL (bf x t).2 l=s2:=⟨_,rfl⟩
  rw[oS] at b1 o b3 j A b8⊢;refine⟨b1.trans h.st,b3.trans h.gl,λe f=>by rw[o];exact cn _ (h.fle e f),λe f=> ?_,by rw[o];exact cu h.flN (by simp) (λp b=>by rw[co.1 b];exact G),by rw[j];exact cu h.hN b6 (λp b=>(D p b).1), ?_,λp b=> ?_,λp b=> ?_,λp b=>by rw[j];exact cn _ (h.bas p b),λe f y a=> ?_,λu J y a=> ?_⟩
  ·rw[o] at f
   rcases cw.1 f with f|f
   ·exact h.flu e f
   ·exact .inr ⟨(n,t),N,x,R,by rw[co.1 f]⟩
  ·rw[A];exact cu h.tdN b6 (λp b hq=>(D p b).1 (h.tds p hq))
  ·rw[A] at b
   rw[j];exact(cw.1 b).elim (λq=>cn _ (h.tds p q)) (λq=>cR _ q)
  ·rw[j] at b
   rcases cw.1 b with b|b
   ·exact h.snd p b
   ·rw[(D p b).2.1];exact h0 _ (D p b).2.2
  ·rw[o] at f
   rw[j] at a⊢;rw[A];rcases cw.1 a with a|a
   ·rcases cw.1 f with f|f
    ·rcases h.c4 e f y a with q|q|⟨_,_,q⟩
     ·exact .inl (cn _ q)
     ·exact .inr (.inl (cn _ q))
     ·exact gC q (by simp)
    ·have ee:=co.1 f
     refine .inr (.inl ?_);rw[<-j,ee];exact b8 y ((Y y).2 (by rw[ee] at a;exact a))
   ·exact .inl (cR _ a)
  ·rw[j] at a
   rw[o,A];rcases cw.1 a with a|a
   ·rcases h.c5 u J y a with q|q|⟨K,v,g⟩
    ·exact .inl (cn _ q)
    ·exact .inr (.inl (cn _ q))
    ·rcases eR.1 g with g|g
     ·exact .inr (.inl (cR _ (by rw[g,v];simp)))
     ·exact .inr (.inr ⟨K,v,g⟩)
   ·exact .inl (cR _ a)
theorem J2.done (h:J2 Bs E Ts St n x [] [] s)(u:s.td=[]){m:Nd}{y:bw}:(m,y)∈s.H↔Lf Bs E Ts m y:=by
 have d4:∀a b:Nd,(a,b)∈s.FL->∀y,(a,y)∈s.H->(b,y)∈s.H:=λa b f y g=>by
  rcases h.c4 _ f y g with q|q|⟨_,_,q⟩
  ·rw[u] at q;exact gC q (by simp)
  ·exact q
  ·exact gC q (by simp)
 have d5:∀(a:Nd)(t:Th),(a,t)∈Ts->∀y,(a,y)∈s.H->bf y t∈s.FL:=λa t d y g=>by
  rcases h.c5 _ d y g with q|q|⟨_,_,q⟩
  ·rw[u] at q;exact gC q (by simp)
  ·exact q
  ·exact gC q (by simp)
 refine⟨λv=>h.snd _ v,λA=> ?_⟩
 induction A with
 |base hb=>exact h.bas _ hb
 |edge f _ ih=>exact d4 _ _ (h.fle _ f) _ ih
 |out d _ _ j o=>exact d4 _ _ (d5 _ _ d _ j) _ o
 |into d _ _ j o=>exact d4 _ _ (d5 _ _ d _ j) _ o
end
theorem eY {α:Type}[DecidableEq α]:∀(a b:bh α),a.Nodup->(∀x∈a,x∈b)->a.length<=b.length
 |[],_,_,_=>da _
 |x::a,b,d,h=>by
  rw[nh] at d;have f:x∈b:=h x (by simp);have ih:=eY a (b.erase x) d.2 (λy g=>(List.mem_erase_of_ne (λe=>d.1 (by rw[<-e];exact g))).2 (h y (by simp[g])));rw[List.length_erase_of_mem f] at ih;have:=List.length_pos_of_mem f;simp;omega
theorem qw {f g:ct}:∀(l:bh ct)(n:bw),(fZ f g n l).length=l.length
 |[],_=>rfl
 |_::r,n=>by unfold fZ;rw[du,du,qw r]
theorem cB {α β:Type}{f:α->bh β}{k:bw}:∀(l:bh α),(∀x∈l,(f x).length<=k)->(l.flatMap f).length<=k*l.length
 |[],_=>by simp
 |x::r,h=>by
  rw[cY,cm,du,Nat.mul_succ];have:=h x (by simp);have:=cB r (λy a=>h y (by simp[a]));omega
theorem nO {l:bh XI}(f:∀x∈l,x.2.2.args.length<=40):(aJ l).length<=41*l.length:=cB l λx g=>by
 unfold nJ;have:=f x g
 by_cases a:x.2.2.op=9
 ·rw[cQ a];simp
 by_cases b:x.2.2.op=15
 ·rw[cy a,cQ b,cm,qw];simp;omega
 by_cases d:x.2.2.op=18
 ·rw[cy a,cy b,cQ d];simp
 ·rw[cy a,cy b,cy d];simp
theorem nP {l:bh XI}:(cO l).length<=1*l.length:=cB l λx _=>by
 unfold kW
 by_cases a:x.2.2.op=10
 ·rw[cQ a];simp
 by_cases b:x.2.2.op=11
 ·rw[cy a,cQ b];simp
 ·rw[cy a,cy b];simp
theorem dC {l:bh XI}:(aI l).length<=1*l.length:=cB l λx _=>by
 unfold nK
 by_cases a:x.2.2.op=12
 ·rw[cQ a];simp
 ·rw[cy a];simp
theorem ul {n:Nd}{x:bw}:∀(l:bh XI)(c:bw),(n,x)∈aK c l->c<=x/\x<c+(aI l).length
 |[],c,h=>by simp[aK] at h
 |y::r,c,h=>by
  unfold aK at h;unfold aI;rw[cY,cm];rcases cw.1 h with h|h
  ·unfold mq at h
   unfold nK
   by_cases a:y.2.2.op=12
   ·rw[cQ a,co] at h
    rw[cQ a];have:x=c:=dy km h;simp;omega
   ·rw[cy a] at h;exact gC h (by simp)
  ·have:=ul r _ h
   unfold aI at this;omega
theorem qx:∀(l:bh XI)(c:bw),(aK c l).length<=l.length
 |[],_=>by simp[aK]
 |y::r,c=>by
  unfold aK;rw[cm,du];have:=qx r (c+(nK y.1 y.2.1 y.2.2).length);unfold mq
  by_cases a:y.2.2.op=12
  ·rw[cQ a];simp;omega
  ·rw[cy a];simp;omega
def rU (l:bh XI):bh Nd:=(aK 0 l).map Prod.fst++(aJ l).map km++(cO l).map (λt=>t.2.2.1)++(ka (aI l).length).flatMap λx:bw=>(cO l).map λt=>mi (x:ct) t.2.1
def rV (l:bh XI):bh (Nd×bw):=(rU l).flatMap λn=>(ka (aI l).length).map λx=>(n,x)
theorem eQ {l:bh XI}{n:Nd}{x:bw}(h:Lf (aK 0 l) (aJ l) (cO l) n x):x<(aI l).length:=by
 induction h with
 |base h=>have:=ul l 0 h;omega
 |edge _ _ ih=>exact ih
 |out _ _ _ _ ih=>exact ih
 |into _ _ _ _ ih=>exact ih
theorem Ab {l:bh XI}{n:Nd}{x:bw}(h:Lf (aK 0 l) (aJ l) (cO l) n x):(n,x)∈rV l:=by
 have a:=eQ h;unfold rV;rw[gw];refine⟨n, ?_,by rw[eh];exact⟨x,by simpa using a,rfl⟩⟩;unfold rU;cases h with
 |base h=>exact cn _ (cn _ (cn _ (eh.2 ⟨_,h,rfl⟩)))
 |edge h _=>exact cn _ (cn _ (cR _ (eh.2 ⟨_,h,rfl⟩)))
 |out h _ _=>exact cn _ (cR _ (eh.2 ⟨_,h,rfl⟩))
 |into h b _=>exact cR _ (gw.2 ⟨_,by simpa using eQ b,eh.2 ⟨_,h,rfl⟩⟩)
theorem vO {l:bh XI}(a:∀x∈l,x.2.2.args.length<=40)(b:l.length<=400):(rV l).length<=100000000:=by
 have d:=qx l 0;have f:=nO a;have g:=nP (l:=l);have h:=dC (l:=l);have j:(rU l).length<=200000:=by
  unfold rU;have o:((ka (aI l).length).flatMap λx:bw=>(cO l).map λt=>mi (x:ct) t.2.1).length<=400*400:=by
   refine cv (cB (k:=400) _ (λx _=>by rw[dd];omega)) (Nat.mul_le_mul_left _ (by rw[i8];omega))
  rw[cm,cm,cm,dd,dd,dd];omega
 unfold rV;refine cv (cB (k:=400) _ (λn _=>by rw[dd,i8];omega)) ?_;omega
def vP (l:bh XI):bh (Nd×Nd):=aJ l++(ka (aI l).length).flatMap λx:bw=>(cO l).map λt=>bf x t.2
theorem vQ {l:bh XI}(a:∀x∈l,x.2.2.args.length<=40)(b:l.length<=400):(vP l).length<=200000:=by
 have d:=nO a;have f:=nP (l:=l);have g:=dC (l:=l);have h:((ka (aI l).length).flatMap λx:bw=>(cO l).map λt=>bf x t.2).length<=400*400:=by
  refine cv (cB (k:=400) _ (λx _=>by rw[dd];omega)) (Nat.mul_le_mul_left _ (by rw[i8];omega))
 unfold vP;rw[cm];omega
section
variable {l:bh XI}{St:bh (ct×ct)}{n:Nd}{x:bw}{bs:bh Nd}{ts:bh Th}{s:PS}
theorem J2.lens (h:J2 (aK 0 l) (aJ l) (cO l) St n x bs ts s)(b:∀x∈l,x.2.2.args.length<=40)(d:l.length<=400):s.H.length<=100000000/\s.FL.length<=200000/\s.td.length<=s.H.length/\s.GL.length<=400:=by
 refine⟨cv (eY _ _ h.hN (λp f=>Ab (h.snd p f))) (vO b d),cv (eY _ _ h.flN (λe g=> ?_)) (vQ b d),eY _ _ h.tdN h.tds, ?_⟩
 ·unfold vP
  rcases h.flu e g with a|⟨t,a,y,j,o⟩
  ·exact cn _ a
  ·exact cR _ (gw.2 ⟨y,by simpa using eQ j,eh.2 ⟨t,a,o.symm⟩⟩)
 ·rw[h.gl];have:=nP (l:=l);omega
end
section
open Go.RowKit Go.Maps Go.ChangeMaps
open Go.MapKept (Stamped stamped_empty stamped_push stamped_modify)
structure xH (P:gA)(kt:eJ){α:Type}(ok:α->Prop)(kv:α->bo):Prop where
 K:Keyed P kt
 key:∀a,ok a->∃l,keyOf P kt (kv a)=oa l
 inj:∀a b,ok a->ok b->kv a=kv b->a=b
section
variable {P:gA}{kt t e:eJ}{α:Type}{ok:α->Prop}{kv:α->bo}{z:bo}{w w':World}{B n:bw}{F:α->bo}
def bW (ok:α->Prop)(kv:α->bo)(z:bo)(w:World)(B n:bw)(F:α->bo):Prop:=
 ∃b d,w.heap[B]?=oa (.map b d)/\Stamped b d/\b.size<=n/\(∀x∈b.toList,∃a,ok a/\x.key=kv a)/\
  ∀a,ok a->(∀x∈b.toList,x.key=kv a->x.val=F a)/\((∀x∈b.toList,x.key≠kv a)->F a=z)
theorem bW.made (w:World):bW ok kv z (w.alloc (.map #[] 0)) w.heap.size 0 (λ_=>z):=
 ⟨#[],0,(MapKept.heap_alloc w _).1,stamped_empty 0,by simp,by simp,λa _=>⟨by simp,λ_=>rfl⟩⟩
theorem bW.heap (h:bW ok kv z w B n F)(a:w'.heap[B]?=w.heap[B]?):bW ok kv z w' B n F:=by
 obtain⟨b,c,d,f⟩:=h;exact⟨b,c,a.trans d,f⟩
theorem bW.lt (h:bW ok kv z w B n F):B<w.heap.size:=by
 obtain⟨b,c,a,_⟩:=h;exact(aw.1 a).1
theorem bW.ext {M:bw->Prop}(h:bW ok kv z w B n F)(a:Ext M w w')(b:¬M B):bW ok kv z w' B n F:=h.heap (a.block B h.lt b)
theorem bW.mono {a:bw}(h:bW ok kv z w B n F)(b:n<=a):bW ok kv z w B a F:=by
 obtain⟨d,c,f,g,j,o⟩:=h;exact⟨d,c,f,g,cv j b,o⟩
theorem bW.look (h:bW ok kv z w B n F)(k:xH P kt ok kv)(o:P.underlying t=oa (.map kt e))(q:(zeroValue e).run P w= .ok z w){a:α}(f:ok a):
  (ew t (.map (oa B)) (kv a) od).run P w= .ok (F a) w:=by
 obtain⟨u,G,hb,J,_,v,hF⟩:=h;obtain⟨l,g⟩:=k.key a f;rcases k.K.find w g u.toList (λx y=>by obtain⟨a',b,d⟩:=v x y;rw[d];exact k.key a' b) with⟨b,d⟩|⟨j,A,b,d,D⟩
 ·rw[(hF a f).2 d]
  simp[ew,dT o,ej hb,k.K.check w _ g,b,q,eb]
 ·rw[<-(hF a f).1 A (cA d) D]
  simp[ew,dT o,ej hb,k.K.check w _ g,b,eb]
open Classical in
noncomputable def um (F:α->bo)(a:α)(v:bo):α->bo:=λx=>if x=a then v else F x
theorem fG (a:α)(v:bo):um F a v a=v:=cQ rfl
theorem iY {a b:α}(h:b≠a)(v:bo):um F a v b=F b:=cy h
theorem dR {a:Obj}{b:cC jt}{c:bw}(hb:w.heap[B]?=oa (.map b c)):Ext (·=B) w (gj w B a):=
 ⟨rfl,rfl,rfl,by simp[gj],λi _ d=>heap_setBlock_other hb _ d⟩
theorem nQ {d:cC jt}{J j:bw}{g:jt}(k:xH P kt ok kv)(hs:Stamped d J)(hn:d.size<=n)(hk:∀x∈d.toList,∃a,ok a/\x.key=kv a)
  (hF:∀a,ok a->(∀x∈d.toList,x.key=kv a->x.val=F a)/\((∀x∈d.toList,x.key≠kv a)->F a=z)){a:α}(K:ok a)(u:d[j]?=oa g)(h0:g.key=kv a)(v:bo)(f:jt->jt)(hf:f g={g with val:=v})(pf:∀x,(f x).born=x.born)
  (hb:w.heap[B]?=oa (.map (d.modify j f) J)):bW ok kv z w B n (um F a v):=by
 have A:j<d.size:=(aw.1 u).1;have N:(d.modify j f).toList=d.toList.set j {g with val:=v}:=by
  apply List.ext_getElem?;intro i;rw[Array.getElem?_toList,Array.getElem?_modify,List.getElem?_set]
  by_cases e:j=i
  ·subst e
   rw[cQ rfl,cQ rfl,u];simp[hf,A]
  ·rw[cy e,cy e,Array.getElem?_toList]
 have oX:d.toList.Pairwise (λx y=>x.key≠y.key):=((MapKept.stamped_iff d J).1 hs).2.2;have oY:∀x∈d.toList.set j {g with val:=v},x={g with val:=v}\/(x∈d.toList/\x.key≠kv a):=by
  intro x q;obtain⟨i,R,o⟩:=List.getElem_of_mem q;rw[List.getElem_set] at o
  split at o
  ·exact .inl o.symm
  ·rename_i Y
   have oR:i<d.toList.length:=by simpa using R
   refine .inr ⟨o▸List.getElem_mem oR,λe=>Y ?_⟩;have D:d.toList[j]'(by simpa using A)=g:=by
    have:=(aw.1 u).2;simpa using this
   refine ea λph=> ?_;rcases Nat.lt_or_gt_of_ne ph with oS|oS
   ·exact kb.1 oX j i (by simpa using A) oR oS (by rw[D,h0,o,e])
   ·exact kb.1 oX i j oR (by simpa using A) oS (by rw[D,h0,o,e])
 have pi:{g with val:=v}∈d.toList.set j {g with val:=v}:=List.mem_iff_getElem.2 ⟨j,by simpa using A,by simp⟩;refine⟨_,_,hb,stamped_modify hs j f (λe _=>pf e) (λe _ he=>by rw[u] at he;obtain rfl:=cN he;rw[hf]),by simpa using hn, ?_,λb G=>⟨?_, ?_⟩⟩
 ·rw[N]
  intro x q;rcases oY x q with rfl|⟨h,_⟩
  ·exact⟨a,K,h0⟩
  ·exact hk x h
 ·rw[N]
  intro x q oT;rcases oY x q with rfl|⟨h,Y⟩
  ·have:b=a:=k.inj b a G K (oT.symm.trans h0)
   subst this;rw[fG]
  ·rw[iY (λe=>Y (by rw[oT,e]))]
   exact(hF b G).1 x h oT
 ·rw[N]
  intro pb;have pc:b≠a:=λe=>pb _ pi (by rw[e];exact h0);rw[iY pc];refine(hF b G).2 λx q e=> ?_;obtain⟨i,R,o⟩:=List.getElem_of_mem q
  by_cases pd:j=i
  ·subst pd
   have D:d.toList[j]=g:=by
    have:=(aw.1 u).2;simpa using this
   rw[D] at o;subst o;exact pc (k.inj b a G K (e.symm.trans h0))
  ·exact pb x (List.mem_iff_getElem.2 ⟨i,by simpa using R,by rw[List.getElem_set,cy pd];exact o⟩) e
theorem qy {f:cC jt}{g:bw}(k:xH P kt ok kv)(y:Stamped f g)(G:f.size<=n)(A:∀x∈f.toList,∃a,ok a/\x.key=kv a)
  (hF:∀a,ok a->(∀x∈f.toList,x.key=kv a->x.val=F a)/\((∀x∈f.toList,x.key≠kv a)->F a=z)){a:α}(o:ok a)(q:∀x∈f.toList,x.key≠kv a)(v:bo)
  (hb:w.heap[B]?=oa (.map (f.push ⟨kv a,v,g⟩) (g+1))):bW ok kv z w B (n+1) (um F a v):=by
 refine⟨_,_,hb,stamped_push y q,by simp;omega, ?_,λb h=>⟨?_, ?_⟩⟩
 ·intro x d
  simp only[Array.toList_push,cw,co] at d;rcases d with d|rfl
  ·exact A x d
  ·exact⟨a,o,rfl⟩
 ·intro x d j
  simp only[Array.toList_push,cw,co] at d;rcases d with d|rfl
  ·rw[iY (λe=>q x d (by rw[j,e]))]
   exact(hF b h).1 x d j
  ·have:a=b:=k.inj a b o h j
   subst this;rw[fG]
 ·intro u
  have D:b≠a:=λe=>u ⟨kv a,v,g⟩ (by simp) (by rw[e]);rw[iY D];exact(hF b h).2 λx d e=>u x (by simp[d]) e
theorem bW.put (h:bW ok kv z w B n F)(k:xH P kt ok kv)(D:P.underlying t=oa (.map kt e)){a:α}(o:ok a)(v:bo):
  ∃w',(kf t (.map (oa B)) (kv a) v).run P w= .ok () w'/\bW ok kv z w' B (n+1) (um F a v)/\Ext (·=B) w w':=by
 obtain⟨f,q,hb,G,J,u,hF⟩:=h;obtain⟨l,g⟩:=k.key a o;rcases k.K.find w g f.toList (λx R=>by obtain⟨a',b,d⟩:=u x R;rw[d];exact k.key a' b) with⟨b,d⟩|⟨j,Y,b,d,y⟩
 ·refine⟨gj w B (.map (f.push ⟨kv a,v,q⟩) (q+1)), ?_,qy k G J u hF o d v (ge hb _),dR hb⟩
  simp[kf,dT D,ej hb,k.K.check w od g,b,fL _ hb,eb,gj]
 ·have N:f[j]?=oa Y:=by simpa using d
  refine⟨gj w B (.map (f.modify j (λA=>{A with key:=kv a,val:=v})) q), ?_,(nQ k G J u hF o N y v (λA=>{A with key:=kv a,val:=v}) (by rw[<-y]) (λ_=>rfl) (ge hb _)).mono (fX _),dR hb⟩;simp[kf,dT D,ej hb,k.K.check w od g,b,N,y,k.K.stays w g,fL _ hb,eb,gj]
theorem findIdx_born {a:cC jt}{j:bw}{d:jt}(o:(a.toList.map (·.born)).Nodup)(q:a[j]?=oa d):a.findIdx? (λe=>(e.born:ct)==(d.born:ct))=oa j:=by
 obtain⟨b,f⟩:=aw.1 q;rw[Array.findIdx?_eq_some_iff_getElem];refine⟨b,by rw[f];simp,λi g=> ?_⟩;have u:i<a.size:=Nat.lt_trans g b;have h:=kb.1 o i j (by simpa using u) (by simpa using b) g;simp only[List.getElem_map,Array.getElem_toList] at h;rw[f] at h;simp;omega
theorem uo {a:α}{v:bo}(h:F a=v):um F a v=F:=by
 funext x
 by_cases e:x=a
 ·rw[e,fG,h]
 ·rw[iY e]
theorem bW.entry (h:bW ok kv z w B n F)(k:xH P kt ok kv)(ht:P.underlying t=oa (.map kt e))(hz:(zeroValue e).run P w= .ok z w){a:α}(A:ok a):
  ∃w' st,(nB t (.map (oa B)) (kv a)).run P w= .ok (.tuple #[F a,Z U st]) w'/\Ext (·=B) w w'/\bW ok kv z w' B (n+1) F/\
   ∀W v,W.heap[B]?=w'.heap[B]? ->∃W',(mT t (.map (oa B)) (Z U st) v).run P W= .ok () W'/\bW ok kv z W' B (n+1) (um F a v)/\Ext (·=B) W W':=by
 obtain⟨g,b,hb,hs,hn,hk,hF⟩:=h;obtain⟨l,hl⟩:=k.key a A;have store:∀(d:cC jt)(G j:bw)(f:jt)(F1:α->bo),Stamped d G->d.size<=n+1->(∀x∈d.toList,∃a,ok a/\x.key=kv a)->
   (∀a,ok a->(∀x∈d.toList,x.key=kv a->x.val=F1 a)/\((∀x∈d.toList,x.key≠kv a)->F1 a=z))->d[j]?=oa f->f.key=kv a->
   ∀W v,W.heap[B]?=oa (.map d G)->∃W',(mT t (.map (oa B)) (Z U (f.born:ct)) v).run P W= .ok () W'/\bW ok kv z W' B (n+1) (um F1 a v)/\Ext (·=B) W W':=by
  intro d G j f F1 s1 n1 k1 f1 D h0 W v q;refine⟨gj W B (.map (d.modify j (λo=>{o with val:=v})) G), ?_,nQ k s1 n1 k1 f1 A D h0 v (λo=>{o with val:=v}) rfl (λ_=>rfl) (ge q _),dR q⟩;have oS:=findIdx_born ((MapKept.stamped_iff d G).1 s1).2.1 D;simp[mT,ej q,asInt,asIntOf,oS,fL _ q,eb,gj]
 rcases k.K.find w hl g.toList (λx hx=>by obtain⟨a',J,y⟩:=hk x hx;rw[y];exact k.key a' J) with⟨J,y⟩|⟨j,f,J,y,h3⟩
 ·have N:F a=z:=(hF a A).2 y
  have R:=qy (w:=gj w B (.map (g.push ⟨kv a,z,b⟩) (b+1))) k hs hn hk hF A y z (ge hb _);rw[uo N] at R;obtain⟨d,c1,oR,Y,q2,q3,q4⟩:=R;have u:(gj w B (.map (g.push ⟨kv a,z,b⟩) (b+1))).heap[B]?=oa (.map (g.push ⟨kv a,z,b⟩) (b+1)):=ge hb _;have e1:=oR.symm.trans u;simp only[fa,Obj.map.injEq] at e1;obtain⟨rfl,rfl⟩:=e1;refine⟨gj w B (.map (g.push ⟨kv a,z,b⟩) (b+1)),(b:ct), ?_,dR hb,⟨_,_,u,Y,q2,q3,q4⟩,λW v q=> ?_⟩
  ·rw[N]
   simp[nB,dT ht,ej hb,k.K.check w od hl,J,hz,fL _ hb,eb,gj,goInt]
  ·exact store _ _ g.size ⟨kv a,z,b⟩ F Y q2 q3 q4 (by simp) rfl W v (q.trans u)
 ·have D:g[j]?=oa f:=by simpa using y
  have N:f.val=F a:=(hF a A).1 f (cA y) h3;have u:(gj w B (.map (g.modify j (λo=>{o with key:=kv a})) b)).heap[B]?=oa (.map (g.modify j (λo=>{o with key:=kv a})) b):=ge hb _;have R:=nQ k hs hn hk hF A D h3 (F a) (λo=>{o with key:=kv a}) (by rw[<-N,<-h3]) (λ_=>rfl) u;rw[uo rfl] at R;obtain⟨d,c1,oR,Y,q2,q3,q4⟩:=R;have e1:=oR.symm.trans u;simp only[fa,Obj.map.injEq] at e1;obtain⟨rfl,rfl⟩:=e1;refine⟨_,(f.born:ct), ?_,dR hb,⟨_,_,u,Y,mN q2,q3,q4⟩,λW v q=> ?_⟩
  ·simp[nB,dT ht,ej hb,k.K.check w od hl,J,D,h3,k.K.stays w hl,fL _ hb,eb,gj,goInt,N]
  ·exact store _ _ j {f with key:=kv a} F Y (mN q2) q3 q4 (by rw[Array.getElem?_modify,cQ rfl,D];rfl) rfl W v (q.trans u)
end
end
def wS (P:gA)(gf:bw)(lb:cC bo){α:Type}(j:α->cC bo)(h S:bh α->Prop)(Rd:bw->Prop)(w:World):Prop:=
 ∀(l:bw)(J:bh α->(bw->Prop)->World->Prop)(f:bh α->World->Prop)(C:bw->Prop)(W:World),bj w.heap.size w W->
  (∀a C b d,J a C b->Ext (λk=>W.heap.size<=k/\¬C k) b d->J a C d)->
  (∀a C b,J a C b->∀k,C k->k<b.heap.size/\¬Rd k)->
  (∀a b d,f a b->Ext (λ_=>fW) b d->f a d)->
  (∀a x C b,J a C b->h (a++[x])->wB P (.func (.yield l) #[] #[]) (j x) b λv d=>
   (v= oy oc/\∃g:bw->Prop,(∀k,g k->C k\/b.heap.size<=k)/\J (a++[x]) g d/\Ext C b d)\/(v= oy od/\f (a++[x]) d))->
  J [] C W->
  et P gf (#[.func (.yield l) #[] #[]]++lb) W λe W'=>∃v,e= oE v/\((∃xs,S xs/\∃g,J xs g W')\/(∃a,h a/\f a W'))
theorem ky {P:gA}{α:Type}{g:Operand}{ps:cC Tmp}{assign body:Code}{Q:Exit->Act->World->Prop}{a:Act}{w:World}{gf:bw}{lb:cC bo}{fn:Func}{fb:Code}
  (hg:a.eval g= .func (.func gf) #[] lb)(hf:P.funcs[gf]?=oa fn)(hname:(fn.name=="runtime.NumGoroutine")=od)(hb:fn.body=oa fb)
  {pi:α->cC bo}{pn S:bh α->Prop}{Rd:bw->Prop}{w0:World}(hit:wS P gf lb pi pn S Rd w0)(pw:bj w0.heap.size w0 w)(hRd:∀k,Rd k->k<w.heap.size)(pH:∀x,(pi x).size=ps.size)
  (I:bh α->(bw->Prop)->World->Prop)(Ix:Code->bh α->(bw->Prop)->World->Prop)
  (hI:∀b C W W',I b C W->Ext (λk=>w.heap.size<=k/\¬C k) W W'->I b C W')
  (hIC:∀b C W,I b C W->∀k,C k->k<W.heap.size/\¬Rd k)
  (hIx:∀c b C W W',Ix c b C W->Ext (λk=>w.heap.size<=k/\¬C k) W W'->Ix c b C W')
  (C0:bw->Prop)(h0:I [] C0 w)
  (hround:∀(l:bw)(b:bh α)(x:α)(C:bw->Prop)(W:World),w.heap.size<=l->I b C W->pn (b++[x])->
   assign.wpIn (eq.inRound l) 0 P (Exit.then (λa₁ W₁=>∃R:bw->Prop,(∀k,R k->C k\/W.heap.size<=k)/\I b R W₁/\Ext C W W₁/\
    ∀G,I b R G->Ext (·=l) W₁ G->body.wpIn (eq.inRound l) 0 P (wF I Ix R G (b++[x])) a₁ G) (λ_ _ _=>fW))
    {tmps:=(ps.zip (pi x)).foldl (λt (p,v)=>t.setIfInBounds p v) a.tmps,defers:=[]} W)
  (hdone:∀(D:bw)(xs:bh α)(C:bw->Prop)(W:World),w.heap.size<=D->¬C D->S xs->I xs C W->W.heap[D]?=oa (.deferred (oa []))->Q .normal {a with defers:=mark D::a.defers} W)
  (hstop:∀(D:bw)(c:Code)(b:bh α)(C:bw->Prop)(W:World),w.heap.size<=D->¬C D->pn b->Ix c b C W->W.heap[D]?=oa (.deferred (oa []))->c.wp P Q {a with defers:=mark D::a.defers} W):
  (Code.rangeFunc g ps assign body).wp P Q a w:=by
 have eg:∀args w,(callFunc gf args).run P w= .ok (.enter gf args) w:=enters_of hf hname hb;refine(lB (n:=0)).1 (wpIn_rangeFunc ?_);intro px _;obtain⟨u,oR⟩:∃u:LoopState->dr Code->Loop,u=λst pe=>{state:=st,pending:=pe,fn:=px,tmps:=a.tmps,params:=ps,assign,body,defers:=w.heap.size}:=⟨_,rfl⟩
 obtain⟨W1,ph⟩:=zE ((w.alloc (.deferred (oa []))).alloc (.loop (u .ready ob)));obtain⟨D,hD⟩:=zE w.heap.size;obtain⟨l,hl⟩:=zE (w.heap.size+1);have qu:W1.heap.size=w.heap.size+2:=by rw[<-ph];simp
 have pL:W1.heap[l]?=oa (.loop (u .ready ob)):=by
  rw[<-ph,<-hl];have:=World.alloc_heap_new (w.alloc (.deferred (oa []))) (.loop (u .ready ob));rwa [World.size_alloc] at this
 have pN:W1.heap[D]?=oa (.deferred (oa [])):=by
  rw[<-ph,<-hD];exact(bt _ _ _ (by simp)).trans (World.alloc_heap_new w _)
 have py:Ext (λ_=>fW) w W1:=by rw[<-ph];exact((Ext.refl _ w).alloc _).alloc _
 have pP:I [] C0 W1:=hI _ _ _ _ h0 (py.mono (λ_ h=>h.elim));have pS:bj w0.heap.size w0 W1:=pw.trans ((py.below (bl _) (λ_ h=>h.elim)).mono pw.size);refine⟨l,[mark D],W1,{target:= .fn (.func gf) lb,args:=#[.func (.yield l) #[] #[]]},W1,gf,#[.func (.yield l) #[] #[]]++lb,W1, ?_, ?_,λ_ _=>trivial, ?_,λh=>by simp[eq] at h, ?_⟩
 ·rw[<-ph,oR,<-hl,<-hD];exact run_enterLoop_outer _ _ _ _ _
 ·simp only[resolve,hg]
  simp[go_sem]
 ·simp[invoke,go_sem,eg]
 have pT:=hit l
  (λb C W=>∃f:bw->Prop,(∀k,C k↔f k\/k=l\/k=D)/\¬f l/\¬f D/\I b f W/\W.heap[l]?=oa (.loop (u .ready ob))/\W.heap[D]?=oa (.deferred (oa [])))
  (λb W=>∃(f:bw->Prop) (c:Code),¬f l/\¬f D/\Ix c b f W/\W.heap[l]?=oa (.loop (u .done (oa c)))/\W.heap[D]?=oa (.deferred (oa [])))
  (λk=>C0 k\/k=l\/k=D) W1 pS ?hst ?hC ?hstx ?hY ⟨C0,λ_=>Iff.rfl,λh=>by have:=(hIC _ _ _ h0 l h).1;omega,λh=>by have:=(hIC _ _ _ h0 D h).1;omega,pP,pL,pN⟩
 case hst=>
  rintro b C X Y ⟨f,y,n1,n2,J,h1,h2⟩ hx;refine⟨f,y,n1,n2,hI _ _ _ _ J (hx.mono λk A=>⟨by omega,λh=>A.2 ((y k).2 (.inl h))⟩),hx.heap h1 (λh=>h.2 ((y l).2 (by simp))),hx.heap h2 (λh=>h.2 ((y D).2 (by simp)))⟩
 case hC=>
  rintro b C X ⟨f,y,n1,n2,J,h1,h2⟩ k A;rcases(y k).1 A with h|rfl|rfl
  ·exact hIC _ _ _ J k h
  ·exact⟨(aw.1 h1).1,λh=>by have:=hRd _ h;omega⟩
  ·exact⟨(aw.1 h2).1,λh=>by have:=hRd _ h;omega⟩
 case hstx=>
  rintro b X Y ⟨f,c,n1,n2,J,h1,h2⟩ hx;exact⟨f,c,n1,n2,hIx _ _ _ _ _ J (hx.mono λ_ h=>h.elim),hx.heap h1 (λh=>h),hx.heap h2 (λh=>h)⟩
 case hY=>
  rintro b x C W ⟨f,y,n1,n2,J,oS,pd⟩ po;have qv:l<W.heap.size:=(aw.1 oS).1;have qS:D<W.heap.size:=(aw.1 pd).1;have hy:=run_yield (P:=P) (args:=pi x) oS (by rw[oR];exact pH x);rw[oR] at hy;refine iK (m:=0) ⟨px,_,assign,body,hy,roundIn_of_wpIn trivial (wpIn_mono (hround l b x f W (by omega) J po) ?_)⟩;intro e a₁ W₁ hq;cases e with
  |normal=>
   obtain⟨R,pj,pZ,pf,qe⟩:=hq;have pB:=pf.heap oS n1;have qk:=pf.heap pd n2;have m1:¬R l:=λh=>by rcases pj l h with h|h;exact n1 h;omega
   have m2:¬R D:=λh=>by rcases pj D h with h|h;exact n2 h;omega
   refine⟨_,run_beginRound pB (by rw[oR]), ?_⟩;obtain⟨G,pp⟩:∃G,W₁.putObj l (.loop {u .ready ob with state:= .busy})=G:=⟨_,rfl⟩
   rw[pp];have oT:Ext (·=l) W₁ G:=by rw[<-pp];exact Ext.putObj _ _ _
   have qn:G.heap[l]?=oa (.loop {u .ready ob with state:= .busy}):=by rw[<-pp];exact World.putObj_heap_same (aw.1 pB).1
   have qq:G.heap[D]?=oa (.deferred (oa [])):=oT.heap qk (by omega);have qr:I b R G:=hI _ _ _ _ pZ (oT.mono λk A=>by subst A;exact⟨by omega,m1⟩);refine wpIn_mono (qe G qr oT) ?_;have qs:Ext C W W₁:=pf.mono λk h=>(y k).2 (.inl h);have pk:∀(o:dr Code)(d:bw->Prop)(W₃:World),(∀k,d k->R k\/G.heap.size<=k)->Ext R G W₃->
     (Instr.endRound l o).run P W₃= .ok (oy o.isNone) (W₃.putObj l (.loop (u (if o.isNone then .ready else .done) o)))/\
     (W₃.putObj l (.loop (u (if o.isNone then .ready else .done) o))).heap[l]?=oa (.loop (u (if o.isNone then .ready else .done) o))/\
     (W₃.putObj l (.loop (u (if o.isNone then .ready else .done) o))).heap[D]?=oa (.deferred (oa []))/\¬d l/\¬d D/\Ext C W (W₃.putObj l (.loop (u (if o.isNone then .ready else .done) o)))/\
     Ext (λk=>w.heap.size<=k/\¬d k) W₃ (W₃.putObj l (.loop (u (if o.isNone then .ready else .done) o)))/\(∀k,d k->f k\/W.heap.size<=k):=by
    intro o d W₃ K N;have pD:=N.heap qn m1;have qt:=N.heap qq m2;have q:=run_endRound (P:=P) o pD;rw[oR] at q⊢;have q1:¬d l:=λh=>by rcases K l h with h|h;exact m1 h;have:=oT.size;have:=pf.size;omega
    have q2:¬d D:=λh=>by rcases K D h with h|h;exact m2 h;have:=oT.size;have:=pf.size;omega
    refine⟨q,World.putObj_heap_same (aw.1 pD).1,(World.putObj_heap_other (by omega)).trans qt,q1,q2, ?_,(Ext.putObj _ _ _).mono (λk A=>by subst A;exact⟨by omega,q1⟩), ?_⟩
    ·refine((qs.trans oT (λj hj=> .inl ((y j).2 (by simp[hj])))).trans N (λj hj=> ?_)).trans (Ext.putObj _ _ _) (λj hj=> .inl ((y j).2 (by simp[hj])))
     rcases pj j hj with h|h
     ·exact .inl ((y j).2 (.inl h))
     ·exact .inr h
    ·intro k A
     rcases K k A with h|h
     ·exact pj k h
     ·right;have:=oT.size;have:=pf.size;omega
   intro e a3 W3 hp;cases e with
   |normal=>
    obtain⟨d,K,oX,N⟩:=hp;obtain⟨q,oY,pb,q1,q2,pl,pc,pm⟩:=pk ob d W3 K N;refine⟨_,_,q,_,rfl,.inl ⟨rfl,λk=>d k\/k=l\/k=D,λk A=> ?_,⟨d,λ_=>Iff.rfl,q1,q2,hI _ _ _ _ oX pc,oY,pb⟩,pl⟩⟩;rcases A with h|h|h
    ·rcases pm k h with h|h
     ·exact .inl ((y k).2 (.inl h))
     ·exact .inr h
    ·exact .inl ((y k).2 (by simp[h]))
    ·exact .inl ((y k).2 (by simp[h]))
   |ret=>
    obtain⟨d,K,oX,N⟩:=hp;obtain⟨q,oY,pb,q1,q2,pl,pc,pm⟩:=pk (oa .ret) d W3 K N;exact⟨_,_,q,_,rfl,.inr ⟨rfl,d,.ret,q1,q2,hIx _ _ _ _ _ oX pc,oY,pb⟩⟩
   |exit id=>
    obtain⟨d,K,oX,N⟩:=hp;obtain⟨q,oY,pb,q1,q2,pl,pc,pm⟩:=pk (oa (.exit id)) d W3 K N;exact⟨_,_,q,_,rfl,.inr ⟨rfl,d,.exit id,q1,q2,hIx _ _ _ _ _ oX pc,oY,pb⟩⟩
   |goto t=>
    obtain⟨d,K,oX,N⟩:=hp;obtain⟨q,oY,pb,q1,q2,pl,pc,pm⟩:=pk (oa (.goto t)) d W3 K N;exact⟨_,_,q,_,rfl,.inr ⟨rfl,d,.goto t,q1,q2,hIx _ _ _ _ _ oX pc,oY,pb⟩⟩
   |panic ch=>exact hp.elim
   |outgrown=>exact hp.elim
  |exit _=>exact hq.elim
  |goto _=>exact hq.elim
  |ret=>exact hq.elim
  |panic _=>exact hq.elim
  |outgrown=>exact hq.elim
 refine CallsIn.mono ((callsIn_wide (n:=0-1)).2 pT) ?_;rintro e W2 ⟨v,rfl,(⟨xs,hS,d,f,y,n1,n2,J,oS,pd⟩|⟨b,po,f,c,n1,n2,J,oS,pd⟩)⟩
 ·have q:=run_endLoop (P:=P) oS (by rw[oR];simp)
  rw[oR] at q;refine⟨ob,_,q,hdone D xs f _ (by omega) n2 hS (hI _ _ _ _ J ((Ext.putObj _ _ _).mono λk A=>by subst A;exact⟨by omega,n1⟩)) ((World.putObj_heap_other (by omega)).trans pd)⟩
 ·have q:=run_endLoop (P:=P) oS (by rw[oR];simp)
  rw[oR] at q;refine⟨oa c,_,q,lB.2 (hstop D c b f _ (by omega) n2 po (hIx _ _ _ _ _ J ((Ext.putObj _ _ _).mono λk A=>by subst A;exact⟨by omega,n1⟩)) ((World.putObj_heap_other (by omega)).trans pd))⟩
section
open Go.RowKit Go.Maps
theorem jh:Keyed ac 3:=int_keyed gt
theorem xI (w:World):(zeroValue 4).run ac w= .ok (oy od) w:=by kernel_rfl
structure Bu (D:DataW Unit)(S:bh ct):Prop where
 map:IsMap D
 at_:∀x:ct,D.atKey (.int .i64 x) (.lit (.bool od))= .lit (.bool (decide (x∈S)))
 key:∀kl,n8 D kl=oc->∃x,kl= .int .i64 x/\x∈S
 has:∀x∈S,n8 D (.int .i64 x)=oc
def gG (w:World)(B n:bw)(S:bh ct):Prop:=∃D:DataW Unit,w.ownsMap ac 3 (ii ac 4) B n D/\Bu D S
theorem gG.made (w:World):gG (w.alloc (.map #[] 0)) w.heap.size 0 []:=
 ⟨.map [],World.ownsMap_made _ _ _ _,isMap_empty,λx=>by simp[DataW.atKey],λa h=>by simp[n8] at h,λx h=>by simp at h⟩
theorem gG.ext {w w':World}{B n:bw}{S:bh ct}{M:bw->Prop}(h:gG w B n S)(a:Ext M w w')(b:¬M B):gG w' B n S:=by
 obtain⟨D,⟨d,f,g,j⟩,o⟩:=h;exact⟨D,⟨d,f,a.heap g b,j⟩,o⟩
theorem gG.lt {w:World}{B n:bw}{S:bh ct}(h:gG w B n S):B<w.heap.size:=by
 obtain⟨D,a,b⟩:=h;exact a.lt
theorem iG {P:gA}{e:eJ}(a:P.underlying e=oa .bool){v:bo}{z:DataW Unit×bh MemPlace}(h:ii P e v=oa z):∃x,v= .bool x/\z=(.lit (.bool x),[]):=by
 unfold ii at h;rw[a] at h;cases v<;>simp at h;exact⟨_,rfl,h.symm⟩
theorem gG.look {w:World}{B n:bw}{S:bh ct}(h:gG w B n S){x:ct}(b: -9223372036854775808<=x/\x<=9223372036854775807):
  (ew 162 (.map (oa B)) (.int .i64 x) od).run ac w= .ok (.bool (decide (x∈S))) w:=by
 obtain⟨D,d,f⟩:=h;obtain⟨v,o,g,j⟩:=d.lookup jh jx (xI w) (mz fh od) (keyOf_int_mk gt (g8 b));obtain⟨y,rfl,a⟩:=iG fh j;rw[f.at_ x] at a;simp only[lR,DataW.lit.injEq,Lit.bool.injEq] at a;rw[g,<-a.1]
theorem gG.add {w:World}{B n:bw}{S:bh ct}(h:gG w B n S){x:ct}(f: -9223372036854775808<=x/\x<=9223372036854775807)(G:n<=1000000000):
  ∃w',(kf 162 (.map (oa B)) (.int .i64 x) (.bool oc)).run ac w= .ok () w'/\gG w' B (n+1) (x::S)/\Ext (·=B) w w':=by
 obtain⟨D,g,a⟩:=h;obtain⟨w',j,o,q⟩:=g.update jh jx (by unfold cX;omega) (keyOf_int_mk gt (g8 f)) (mz fh oc);refine⟨w',j,⟨_,o,a.map.put _ _,λy=> ?_,λd b=> ?_,λy u=> ?_⟩,Ext.of_grown q (λk b=> .inl (by simpa using b.symm))⟩
 ·by_cases e:y=x
  ·subst e
   rw[atKey_put_same a.map (by simp[mb])];simp
  ·rw[atKey_put_other (by simpa using e),a.at_ y];simp[e]
 ·by_cases e:d= .int .i64 x
  ·exact⟨x,e,by simp⟩
  ·rw[has_put_other e] at b
   obtain⟨z,v,A⟩:=a.key d b;exact⟨z,v,List.mem_cons_of_mem _ A⟩
 ·by_cases e:y=x
  ·subst e
   exact has_put_same a.map (by simp[mb]) _
  ·rw[has_put_other (by simpa using e)]
   rcases eR.1 u with h|h
   ·exact gC h e
   ·exact a.has y h
end
section
open Go.RowKit Go.Maps
theorem Ac {W:World}{g:bw}{o:Obj}(h:W.heap[g]?=oa o):g<W.heap.size:=(aw.1 h).1
structure BK where
 b:iv
def xJ (w:World)(v:bo)(S:bh ct):Prop:=(v= .map ob/\S=[])\/∃b n,v= .map (oa b)/\gG w b n S
theorem xJ.below {w w':World}{v:bo}{S:bh ct}(h:xJ w v S)(hb:bj w.heap.size w w'):xJ w' v S:=by
 rcases h with h|⟨b,n,a,d⟩
 ·exact .inl h
 ·exact .inr ⟨b,n,a,d.ext (Ext.of_below_size (M:=λ_=>fW) hb) (λh=>h)⟩
def AX (S a:bh ct):Prop:=a.Nodup/\∀x∈a,x∈S
def Ad (S a:bh ct):Prop:=a.Nodup/\∀x,x∈a↔x∈S
def vR (x:ct):cC bo:=#[Z U x]
def BV (D:bw)(v:bo)(k:bw):Prop:=k=D\/v= .map (oa k)
theorem vS {P:gA}{w w':World}{H:Type}{kt:eJ}{R:bo->dr (DataW H×bh MemPlace)}{b r n a:bw}{D:DataW H}{left:Lit->iv}{M:bw->Prop}(h:w.ranges P kt R b r n D left a)(d:Ext M w w')(hb:¬M b)(f:¬M r):w'.ranges P kt R b r n D left a:=by
 obtain⟨g,j,o,seen,c0,q,u,v,y,A,G⟩:=h;exact⟨g,j,o,seen,c0,d.heap q hb,u,v,y,d.heap A f,G⟩
theorem vT (w:World)(D:bw)(v:bo)(S:bh ct)(j:w.heap[D]?=oa (.cells #[v] 162 (0,0)))(q:xJ w v S):
  wS ac 163 #[.pointer (oa ⟨D,0,ob⟩)] vR (AX S) (Ad S) (BV D v) w:=by
 intro l J Jx C W pf hst pn hstx po hJ;have pp:=zH pn;have ph:=zH hst;have HM:=zH po;have HJ:=zH hJ;have qs:=q.below pf;have c0:W.cell? ⟨D,0,ob⟩=oa v:=by rw[ci _ _ _ _ _ _ ((pf.block D (Ac j)).trans j)];rfl
 clear hst pn hstx po hJ j pf q;simp only[mC,fN,ev];rcases qs with⟨rfl,rfl⟩|⟨N,n,rfl,A,pi,pw⟩
 ·have qt:cr (∃xs,Ad [] xs/\∃o,J xs o (W.alloc (.mapIter ob 0 #[] 0))):=⟨[],⟨by simp,by simp⟩,C,ph.out _ _ _ _ HJ.out (Ext.of_below_size ((an _ _).alloc (bl _) _))⟩
  have oS:=run_range_nilMap (P:=ac) W 162 3 4 jx;have rm:∀ty,(Instr.next (.pointer (oa ⟨W.heap.size,0,ob⟩)) od ty).run ac (W.alloc (.mapIter ob 0 #[] 0))=_:=λty=>run_next_nilMap _ ty 0 0 #[];go_enter func163,ntmps163;go_wp2;refine wp_loop_rounds 1 ?_;rw[rounds_succ];go_wp2
  ((try simp only[cD,Exit.then]);(try rw[eM]);(first|refine cP (de rfl _ _ _) rfl ?_|refine gb (de rfl _ _ _) rfl ?_));exact⟨_,rfl,.inl qt.out⟩
 ·obtain⟨RI,pj⟩:=zE W.heap.size
  have qu:N<RI:=by rw[<-pj];exact pi.lt
  have qv:cr (∀(d:bh ct) f W1,J d f W1->¬f N):=λd f W1 G hc=>(pp.out d f W1 G N hc).2 (.inr rfl);have qS:cr (¬C RI):=λhc=>by have:=(pp.out _ _ _ HJ.out RI hc).1;omega
  have qT:=zH pj;have px:=zH pw;have rn:=zH qu;clear pw;go_enter func163,ntmps163
  go_wp2_with (first|(at_range;refine wpList_range_own _ rfl _ _ rfl _ _ jh jx (ii ac 4) N n A rfl pi ?_;intro w0 pk py pB)|go_in)
  go_frame
  rw[pj] at pk pB⊢;have ra:cr (w0.ranges ac 3 (ii ac 4) N RI n A (n8 A) (Maps.size A)/\([]:bh ct).Nodup/\(∀z:ct,z∈([]:bh ct)↔z∈S/\n8 A (.int .i64 z)=od)/\J [] C w0/\¬C RI/\RI<w0.heap.size):=by
   refine⟨pk,by simp,λz=>⟨λh=>by simp at h,λh=> ?_⟩,ph.out _ _ _ _ HJ.out (Ext.of_grown (M:=λk=>W.heap.size<=k/\¬C k) py (λk hk=>by cases hk)),qS.out,by omega⟩;have:=px.out.has z h.1;rw[this] at h;exact gC h.2 (by simp)
  clear pk py pB pi c0
  go_loopw [3] (λ_ u=>∃(left:Lit->iv) (oR:bw) (d:bh ct) (f:bw->Prop),u.ranges ac 3 (ii ac 4) N RI n A left oR/\d.Nodup/\(∀z:ct,z∈d↔z∈S/\left (.int .i64 z)=od)/\J d f u/\¬f RI/\RI<u.heap.size) (λ_ u=>u.rangeLeft N RI)
  case atStart=>exact⟨_,_,[],C,ra.out⟩
  case round=>
   rename World=>u;obtain⟨left,oR,d,f,oS,oT,K,G,R,oY⟩:=hrel;have HI:=zH (And.intro oT (And.intro K (And.intro G (And.intro R oY))));clear oT K G R oY
   go_wp2_with (first|(at_next;refine wpList_next_ranges _ rfl _ rfl 3 jh (ii ac 4) (dv .i64) (λc:BK=>Value.bool c.b) (λkey kl pb=>by obtain⟨x,rfl,_⟩:=Maps.keyOf_int_inv gt pb;exact⟨x,rfl⟩) (λv y q=>by obtain⟨x,rfl,_⟩:=iG fh q;exact⟨⟨x⟩,rfl⟩) N RI n _ _ _ rfl oS ?_ ?_)|go_in)
   ·intro rb pD
    have HF:cr (∃xs,Ad S xs/\∃o,J xs o u):=⟨d,⟨HI.out.1,λx=>(HI.out.2.1 x).trans ⟨λh=>h.1,λh=>⟨h,pD _⟩⟩⟩,f,HI.out.2.2.1⟩
    clear rb pD oS;go_wp2
    ((try simp only[cD,Exit.then]);(try rw[eM]);(first|refine cP (de rfl _ _ _) rfl ?_|refine gb (de rfl _ _ _) rfl ?_));exact⟨_,rfl,.inl HF.out⟩
   ·intro x c kl y1 y2 w1 pH pb pL q pN pP pS pT rc pZ
    obtain⟨x',ex,rfl,re⟩:=Maps.keyOf_int_inv gt pb;cases ex;obtain⟨oT,K,G,R,oY⟩:=HI.out;have pl:x∈S:=by
     obtain⟨x',e1,e2⟩:=px.out.key _ (has_true_of_atKey pN);cases e1;exact e2
    have qe:x∉d:=λhk=>by have:=((K x).1 hk).2;rw[pL] at this;cases this
    have pm:J d f w1:=ph.out _ _ _ _ G (Ext.of_grown (M:=λk=>W.heap.size<=k/\¬f k) pT (λk hk=> .inl (by cases hk;exact⟨by rw[qT.out];exact bl _,R⟩)));have pc:AX S (d++[x]):=⟨by rw[im];exact⟨oT,by simp,by intro a ha b hb;simp at hb;subst hb;rintro rfl;exact qe ha⟩,λy hy=>by
     rcases cw.1 hy with h|h
     ·exact((K y).1 h).1
     ·rw[co.1 h];exact pl⟩
    have qk:=zH (HM.out d x f w1 pm pc);unfold vR at qk;have rh:cr (∀(o:bw->Prop)(g:World),(∀k,o k->f k\/w1.heap.size<=k)->J (d++[x]) o g->Ext f w1 g->∃(left:Lit->iv) (oR:bw) (d:bh ct) (f:bw->Prop),(g.ranges ac 3 (ii ac 4) N RI n A left oR/\oR=pH)/\d.Nodup/\(∀z:ct,z∈d↔z∈S/\left (.int .i64 z)=od)/\J d f g/\¬f RI/\RI<g.heap.size):=λo g pd Y oX=>by
     refine⟨_,pH,d++[x],o,⟨vS pP oX (qv.out _ _ _ pm) R,rfl⟩,pc.1,λz=> ?_,Y,λh=> ?_,by have:=oX.size;omega⟩
     ·rw[cw,K z,co]
      constructor
      ·rintro(⟨j,h2⟩|rfl)
       ·exact⟨j,by rw[h2];rfl⟩
       ·exact⟨pl,by rw[WideAt.sameKey_self (by simp[mb])];simp⟩
      ·rintro⟨j,h2⟩
       by_cases e:left (.int .i64 z)=oc
       ·refine .inr ?_
        rw[e] at h2;simp only[Bool.true_and,Bool.not_eq_false'] at h2;have:=WideAt.sameKey_eq h2;cases this;rfl
       ·exact .inl ⟨j,by simpa using e⟩
     ·rcases pd RI h with h|h
      ·exact R h
      ·omega
    have qn:u.rangeLeft N RI=oR:=oS.left_eq;have qq:=zH (And.intro qn pS);have rj:=zH pc;clear pb pL q pN pP pT rc re oT K G R oY pl qe pm pc qn pS oS
    go_upto_region 3 with(fail)
    refine(lB (n:=0)).1 ?_;refine iS (aj rfl (by simp) (.func (.yield l) #[] #[]) (w':=w1) (by simp[go_sem]) ?_);simp only[cE,am,aE,bb];refine aj rfl (by simp) (.int .i64 x) (w':=w1) (by simp[go_sem]) ?_;simp only[cE,am,aE,bb];refine bX (fv:= .func (.yield l) #[] #[]) (args:=#[.int .i64 x]) rfl (.tmp 10) #[.tmp 11] _ rfl rfl (by simp[Act.eval]) qk.out ?_;intro v g q;simp only[cE,am,aE,bb];rcases q with⟨rfl,o,pd,Y,oX⟩|⟨rfl,Y⟩
    ·refine aj rfl (by simp) (.bool od) (w':=g) (by simp[go_sem]) ?_
     simp only[cE,am,aE,bb];refine fx ?_;have HN:=zH (rh.out o g pd Y oX);clear Y oX pd pZ;go_wp2;obtain⟨rk,ro,rl,C2,⟨j,rfl⟩,h2⟩:=HN.out;go_roundw
     case rel=>exact⟨rk,_,rl,C2,j,h2⟩
     case measure=>rw[j.left_eq,qq.out.1];exact qq.out.2
    ·refine aj rfl (by simp) (.bool oc) (w':=g) (by simp[go_sem]) ?_
     simp only[cE,am,aE,bb];refine fx ?_;have HF:cr (∃qr,AX S qr/\Jx qr g):=⟨_,rj.out,Y⟩
     clear Y pZ;go_wp2
     ((try simp only[cD,Exit.then]);(try rw[eM]);(first|refine cP (de rfl _ _ _) rfl ?_|refine gb (de rfl _ _ _) rfl ?_));exact⟨_,rfl,.inr HF.out⟩
theorem nR (w:World)(v:bo)(a:∃r,v= .map r):
  et ac 123 #[v] w λe w'=>e= oE (.func (.func 163) #[] #[ox (oa ⟨w.heap.size,0,ob⟩)])/\w.alloc (oB #[v] 162)=w':=by
 obtain⟨r,rfl⟩:=a;have b:∀(fn:Go.Fn)(first cap:cC bo)(w:World),(Instr.makeFunc fn first cap).run ac w= .ok (.func fn first cap) w:=λ_ _ _ _=>rfl;go_enter func123,ntmps123;go_wp2;go_ret;exact⟨rfl,rfl⟩
end
section
open Go.Shelf Go.Proofs
def za:Go.Shelf.Ren:=⟨λ|125=>202|128=>238|129=>239|189=>162|215=>259|216=>235|257=>201|294=>229|295=>230|296=>231|297=>232|298=>233|299=>234|300=>236|301=>237|328=>254|329=>255|330=>256|331=>257|332=>258|343=>271|n=>n,λ|0=>0|3=>3|4=>4|5=>5|9=>9|28=>35|46=>299|51=>327|53=>245|131=>172|182=>320|183=>321|218=>337|222=>341|228=>349|229=>350|n=>n,λ|n=>n⟩
theorem qz:Go.Proofs.Lays.n189 ac za:={
 mixed:=by kernel_rfl
 f125:=func202.trans (dy oa (by kernel_rfl))
 f128:=func238.trans (dy oa (by kernel_rfl))
 f129:=func239.trans (dy oa (by kernel_rfl))
 f189:=func162.trans (dy oa (by kernel_rfl))
 f215:=func259.trans (dy oa (by kernel_rfl))
 f216:=func235.trans (dy oa (by kernel_rfl))
 f257:=func201.trans (dy oa (by kernel_rfl))
 f294:=func229.trans (dy oa (by kernel_rfl))
 f295:=func230.trans (dy oa (by kernel_rfl))
 f296:=func231.trans (dy oa (by kernel_rfl))
 f297:=func232.trans (dy oa (by kernel_rfl))
 f298:=func233.trans (dy oa (by kernel_rfl))
 f299:=func234.trans (dy oa (by kernel_rfl))
 f300:=func236.trans (dy oa (by kernel_rfl))
 f301:=func237.trans (dy oa (by kernel_rfl))
 f328:=func254.trans (dy oa (by kernel_rfl))
 f329:=func255.trans (dy oa (by kernel_rfl))
 f330:=func256.trans (dy oa (by kernel_rfl))
 f331:=func257.trans (dy oa (by kernel_rfl))
 f332:=func258.trans (dy oa (by kernel_rfl))
 f343:=func271.trans (dy oa (by kernel_rfl))
 t0:=underlying0
 a0:=Tryz.isAgg0
 z0:=Tryz.sizeOf0
 v0:=Tryz.zeroValue0
 t3:=gt
 a3:=Tryz.isAgg3
 z3:=Tryz.sizeOf3
 v3:=Tryz.zeroValue3
 t4:=fh
 a4:=Tryz.isAgg4
 z4:=Tryz.sizeOf4
 v4:=Tryz.zeroValue4
 t5:=underlying5
 a5:=Tryz.isAgg5
 z5:=Tryz.sizeOf5
 v5:=Tryz.zeroValue5
 t9:=kA
 a9:=Tryz.isAgg9
 z9:=Tryz.sizeOf9
 v9:=Tryz.zeroValue9
 t28:=ft
 a28:=Tryz.isAgg35
 z28:=Tryz.sizeOf35
 v28:=Tryz.zeroValue35
 t46:=underlying299
 a46:=Tryz.isAgg299
 z46:=Tryz.sizeOf299
 v46:=Tryz.zeroValue299
 t51:=underlying327
 a51:=Tryz.isAgg327
 z51:=Tryz.sizeOf327
 v51:=Tryz.zeroValue327
 t53:=underlying245
 a53:=Tryz.isAgg245
 z53:=Tryz.sizeOf245
 v53:=Tryz.zeroValue245
 t131:=underlying172
 a131:=Tryz.isAgg172
 z131:=Tryz.sizeOf172
 v131:=Tryz.zeroValue172
 t182:=underlying320
 a182:=Tryz.isAgg320
 z182:=Tryz.sizeOf320
 v182:=Tryz.zeroValue320
 t183:=underlying321
 a183:=Tryz.isAgg321
 z183:=Tryz.sizeOf321
 v183:=Tryz.zeroValue321
 t218:=underlying337
 a218:=Tryz.isAgg337
 z218:=Tryz.sizeOf337
 v218:=Tryz.zeroValue337
 t222:=underlying341
 a222:=Tryz.isAgg341
 z222:=Tryz.sizeOf341
 v222:=Tryz.zeroValue341
 t228:=underlying349
 a228:=Tryz.isAgg349
 z228:=Tryz.sizeOf349
 v228:=Tryz.zeroValue349
 t229:=underlying350
 a229:=Tryz.isAgg350
 z229:=Tryz.sizeOf350
 v229:=Tryz.zeroValue350}
open Go.RowKit Go.Lib Go.Sort in
theorem xK (a d cap:bw)(b:bh ct)(w:World)(f:Holds (dv .i64) w a d b.toArray)(g:a<w.heap.size)(h:b.length<4611686018427387904):
  et ac 162 #[ot (oa ⟨a,d,ob⟩) b.length cap] w λe w'=>
   e= oE (.tuple #[])/\∃n os,w'=grow (putRow (dv .i64) (Sort.ahead w n) a d (b.mergeSort λx y=>decide (x<=y)).toArray) os:=Any.slices_Sort_int qz a d cap b w f g h
end
section
open Go.RowKit Go.Maps
private theorem nH (p:Tmp)(v:bo)(t:cC bo):((#[p]:cC Tmp).zip #[v]).foldl (λt (p,v)=>t.setIfInBounds p v) t=t.setIfInBounds p v:=by simp
theorem nU {P:gA}{n:bw}{ops:cC fY}{rest:bh fY}{o:fY}{a:Act}{w w':World}{Q:Exit->Act->World->Prop}{r:dr bw}(b:o.guard=ob)(d:∀c,o.op≠ .defer c)
  (f:(execOp a.eval o).run P w= .ok .skip w')(h:nw {eq with round:=r} n P ops Q rest (a.put o.dst undef) w'):nw {eq with round:=r} n P ops Q (o::rest) a w:=
 wpListIn_plain b λ_ g=>by
  refine⟨λ_ _=>trivial, ?_⟩;rw[Oper.semAt_eq _ _ _ d,f];exact g _ _ h
theorem kz {w w':World}{B n cap:bw}{a:dr Addr}{xs:bh ct}{M:bw->Prop}(h:bq w B (ot a n cap) xs)(d:Ext M w w')(f:∀k,(bk a n cap).ownBlock=oa k->¬M k):bq w' B (ot a n cap) xs:=by
 refine⟨h.1, ?_⟩;rcases h.2 with j|⟨g,o,cur,b,q,u,v⟩
 ·exact .inl j
 ·exact .inr ⟨g,o,cur,b,q,d.heap u (f g (by rw[b];rfl)),v⟩
def BO (Bs:bw)(w:World)(a:bh ct)(C:bw->Prop)(W:World):Prop:=
 ∃b cap,W.heap[Bs]?=oa (oB #[ot b a.length cap] 35 (0,0))/\bq W (Bs+1) (ot b a.length cap) a/\(∀k,C k↔k=Bs\/(bk b a.length cap).ownBlock=oa k)/\Ext (Bs<=·) w W
theorem rW (w:World){gf:bw}{lb:cC bo}{fn:Func}{fb:Code}(hf:ac.funcs[gf]?=oa fn)(hname:(fn.name=="runtime.NumGoroutine")=od)(pD:fn.body=oa fb)
  {ph S:bh ct->Prop}{Rd:bw->Prop}{N:World}(hit:wS ac gf lb vR ph S Rd N)(oX:bj N.heap.size N w)(hRd:∀k,Rd k->k<w.heap.size)(pH:∀xs,ph xs->xs.length<=1000000):
  et ac 200 #[ot ob 0 0,.func (.func gf) #[] lb] w λe w'=>∃xs d cap,S xs/\e= oE (ot d xs.length cap)/\bq w' w.heap.size (ot d xs.length cap) xs/\bj w.heap.size w w':=by
 obtain⟨Bs,q⟩:=zE w.heap.size;obtain⟨R,Y⟩:=zE (w.alloc (oB #[ot ob 0 0] 35));have oY:=gq Y q;have pi:R.heap[Bs]?=oa (oB #[ot ob 0 0] 35 (0,0)):=by rw[<-Y,<-q];exact alloc_at _ _
 have pj:R.heap.size=Bs+1:=by rw[<-Y];simp[q]
 have pL:=zH oY;have pN:=zH pi;have pb:=zH pj;have pk:=zH Y;have pP:cr (bj N.heap.size N R):=oX.trans (oY.mono (by rw[<-q];exact oX.size));have pc:cr (∀k,Rd k->k<Bs):=λk a=>by rw[<-q];exact hRd k a
 have pS:=zH q;clear oY pi Y oX hRd pj
 (refine dH func200 rfl ?_
  simp only[ntmps200,List.size_toArray,du,gO,Nat.reduceAdd,Nat.reduceSub,nb,
   nd,List.push_toArray,mC,ev,fN])
 go_upto_region 1 with(fail)
 rw[pk.out];clear pk;(try rw[q]);clear q
 go_wp2_with fail
 refine ky (gf:=gf) rfl hf hname pD hit pP.out ?hRd (λ_=>rfl) (BO Bs R) (λ_ _ _ _=>fW) ?hI ?hIC (λ_ _ _ _ _ h _=>h.elim) (·=Bs) ?h0 ?hround ?hdone (λ_ _ _ _ _ _ _ _ h _=>h.elim)
 case hRd=>intro k a;have:=pc.out k a;have:=pb.out;omega
 case hI=>
  rintro f C W W' ⟨d,cap,o,K,v,h4⟩ y;refine⟨d,cap,y.heap o (λh=>h.2 ((v _).2 (.inl rfl))),kz K y (λk a h=>h.2 ((v _).2 (.inr a))),v,h4.trans y (λj A=> .inl (by have:=pb.out;omega))⟩
 case hIC=>
  rintro f C W ⟨d,cap,o,K,v,h4⟩ k a;rcases(v k).1 a with rfl|h
  ·exact⟨(aw.1 o).1,λh=>by have:=pc.out _ h;omega⟩
  ·have:=K.lt k h
   exact⟨this.2,λh=>by have:=pc.out _ h;omega⟩
 case h0=>exact⟨ob,0,pN.out,bq.nil _ _,λk=>by simp[eL],Ext.refl _ _⟩
 case hround=>
  rintro l f x C W hl hI pT;have pZ:=pH _ pT;rw[cm,eE] at pZ;rw[show vR x=#[Z U x] from rfl];rw[nH];simp only[am,aE,bb];refine iS (aj rfl (by simp) (Z U x) (w':=W) (by simp[go_sem]) ?_);simp only[cE,am,aE,bb];refine fx ⟨_,λk a=> .inl a,hI,Ext.refl _ _, ?_⟩;rintro g ⟨d,cap,g1,g2,g3,g4⟩ rb;have hv:g.cell? ⟨Bs,0,ob⟩=oa (ot d f.length cap):=by rw[ci _ _ _ _ _ _ g1];rfl
  have rc:Bs<g.heap.size:=(aw.1 g1).1;obtain⟨i0,qe,qk,qn,qq⟩:=iu jL;obtain⟨W3,pd⟩:=zE (g.alloc (oB #[Z U x] 3));have oR:Ext (λ_=>fW) g W3:=by rw[<-pd];exact(Ext.refl _ _).alloc _
  have qr:bq W3 (Bs+1) (ot d f.length cap) f:=kz g2 oR (λ_ _ h=>h);have qs:∀j u,[dv .i64 x][j]?=oa u->W3.cell? ((⟨g.heap.size,0,ob⟩:Addr).add j)=oa u:=by rw[<-pd];exact cell_one_new _ _ _
  refine wpIn_block (iS (aj rfl (by simp) (ot d f.length cap) (w':=g) (by simp[go_sem,hv]) ?_));simp only[cE,am,aE,bb];refine aj rfl (by simp) (Z U x) (w':=g) (by simp[go_sem]) ?_;simp only[cE,am,aE,bb];refine aj rfl (by simp) (ot (oa ⟨g.heap.size,0,ob⟩) 1 1) (w':=W3) (by rw[<-pd];go_simp) ?_;simp only[cE,am,aE,bb];refine wpListIn_append_own_at (w:=W3) rfl (.tmp 8) (.tmp 10) 35 rfl (Bs+1) 3 i0 _ 1 8 ft qe qk qn qq rfl (by decide) (ot d f.length cap) f.length (f.map (dv .i64)) rfl qr ⟨g.heap.size,0,ob⟩ 1 1 [Z U x] rfl rfl qs (by simp[bp]) (by unfold cX;omega) (by omega) (by have:=oR.size;omega) ?_;intro v9 w9 pl qt _ qu;obtain⟨G,J,qv⟩:∃G J,v9= ot G (f.length+1) J:=by
   rcases pl.2 with⟨o,K⟩|⟨_,_,_,o,_⟩
   ·omega
   ·exact⟨_,_,o⟩
  subst qv;have pf:∀k,(bk d f.length cap).ownBlock=oa k->Bs+1<=k/\k<g.heap.size:=λk a=>g2.lt k a;have pm:Ext (λk=>(bk d f.length cap).ownBlock=oa k) g w9:=(oR.mono (λ_ h=>h.elim)).trans (Ext.of_grown (M:=λk=>(bk d f.length cap).ownBlock=oa k) qt (λk a=> .inl (by simpa using a))) (λj A=> .inl A);have oS:w9.heap[Bs]?=oa (oB #[ot d f.length cap] 35 (0,0)):=pm.heap g1 (λh=>by have:=(pf _ h).1;omega);have re:=(aw.1 oS).1;have qS:w9.cell? ⟨Bs,0,ob⟩=oa (ot d f.length cap):=by rw[ci _ _ _ _ _ _ oS];rfl
  have qT:w9.frozen? ⟨Bs,0,ob⟩=od:=dt _ _ _ _ _ oS;simp only[cE,am,aE,bb];have pn:Ext (·=Bs) w9 (w9.setCell ⟨Bs,0,ob⟩ (ot G (f.length+1) J)):=Ext.set1 _ _ _ _;refine nU rfl (by simp) (w':=w9.setCell ⟨Bs,0,ob⟩ (ot G (f.length+1) J)) (by simp[go_sem,qS,qT]) ?_;refine fx ?_;have po:∀k,(bk G (f.length+1) J).ownBlock=oa k->(bk d f.length cap).ownBlock=oa k\/g.heap.size<=k:=λk a=>by
   rcases qu with h|h
   ·exact .inl (by rw[<-h];exact a)
   ·rw[a] at h
    have:=cN h;have:=oR.size;exact .inr (by omega)
  have pp:Ext C g (w9.setCell ⟨Bs,0,ob⟩ (ot G (f.length+1) J)):=(pm.mono (λk a=>(g3 k).2 (.inr a))).trans pn (λj A=> .inl ((g3 j).2 (.inl A)));refine⟨λk=>k=Bs\/(bk G (f.length+1) J).ownBlock=oa k,λk a=> ?_,⟨G,J, ?_, ?_,λk=> ?_, ?_⟩,pp⟩
  ·rcases a with h|h
   ·exact .inl ((g3 k).2 (.inl h))
   ·rcases po k h with h|h
    ·exact .inl ((g3 k).2 (.inr h))
    ·exact .inr h
  ·rw[cm,eE]
   exact aq w9 Bs 0 _ _ _ oS
  ·rw[cm,eE]
   exact kz (bq.app pl) pn (λk a e=>by
    subst e;rcases po _ a with h|h
    ·have:=(pf _ h).1;omega
    ·omega)
  ·rw[cm,eE]
  ·exact g4.trans pp (λj A=>by
    rcases(g3 j).1 A with h|h
    ·exact .inl (by omega)
    ·exact .inl (by have:=(pf _ h).1;omega))
 case hdone=>
  rintro D xs C W hD pw hS ⟨d,cap,o,K,v,h4⟩ px;have hv:W.cell? ⟨Bs,0,ob⟩=oa (ot d xs.length cap):=by rw[ci _ _ _ _ _ _ o];rfl
  have HD:=zH px;have HR:cr (∀w',Ext (·∈[D]) W w'->∃oT py pB,S oT/\m7 (ot d xs.length cap)= oE (ot py oT.length pB)/\bq w' w.heap.size (ot py oT.length pB) oT/\bj w.heap.size w w'):=by
   intro w' y;rw[pS.out];refine⟨xs,d,cap,hS,rfl,(kz K y (λk a h=> ?_)).mono (fX _), ?_⟩
   ·have:k=D:=by simpa using h
    subst this;exact pw ((v _).2 (.inr a))
   ·have hs:=pb.out
    have ra:Ext (Bs<=·) R w':=h4.trans y (λj A=> .inr (by rw[co.1 A];exact hD));exact pL.out.trans (ra.below (by omega) (λk a=>a))
  clear o K v h4 px pw hS;dsimp only
  go_wp2_with fail
  exact⟨[D],rfl,by simp,by intro b hb;simp at hb;subst hb;exact HD.out,ot d xs.length cap,λw' y=>⟨results_tmp (t:=4) rfl _ _ _,HR.out w' y⟩⟩
def iZ (xs:bh ct):bh ct:=xs.mergeSort λx y=>decide (x<=y)
def zb (S:bh ct->Prop)(w:World)(e:Ending)(w':World):Prop:=
 ∃xs a cap,S xs/\e= oE (ot a xs.length cap)/\bq w' w.heap.size (ot a xs.length cap) (iZ xs)/\bj w.heap.size w w'
theorem rX (w:World){gf:bw}{lb:cC bo}{fn:Func}{J:Code}(hf:ac.funcs[gf]?=oa fn)(hname:(fn.name=="runtime.NumGoroutine")=od)(K:fn.body=oa J)
  {A S:bh ct->Prop}{Rd:bw->Prop}{q:World}(hit:wS ac gf lb vR A S Rd q)(N:bj q.heap.size q w)(hRd:∀k,Rd k->k<w.heap.size)(R:∀xs,A xs->xs.length<=1000000)(Y:∀xs,S xs->xs.length<=1000000):
  et ac 122 #[.func (.func gf) #[] lb] w (zb S w):=by
 have D:=zH (rW w hf hname K hit N hRd R);have HC:cr (et ac 161 #[.func (.func gf) #[] lb] w λe w'=>∃xs d cap,S xs/\e= oE (ot d xs.length cap)/\bq w' w.heap.size (ot d xs.length cap) xs/\bj w.heap.size w w'):=by
  unfold cr;go_enter func161,ntmps161
  go_wp2_with (go_at_call 200;refine D.out.mono ?_;rintro e w2 ⟨xs,d,cap,f,rfl,h,hb⟩;have a:=zH (And.intro f (And.intro h hb));clear f h hb)
  go_ret;exact⟨xs,d,cap,a.out.1,rfl,a.out.2.1,a.out.2.2⟩
 clear D;have HS:=zH Y;go_enter func122,ntmps122
 go_upto_region 2 with(go_at_call 161;refine HC.out.mono ?_;rintro e w2 ⟨xs,d,cap,f,rfl,h,hb⟩;have a:=zH (And.intro f (And.intro h hb));clear f h hb)
 rcases a.out.2.1.2 with⟨j,h0⟩|⟨g,oX,cur,e1,e2,o,e4,e5,e6,G⟩
 ·have hx:xs=[]:=db h0
  subst hx;simp only[ez] at j;obtain⟨rfl,_,rfl⟩:=j;have u:=zH (Any.slices_Sort_int_none qz ob 0 w2)
  go_wp2_with (go_at_call 162;refine u.out.mono ?_;rintro e w3 ⟨rfl,rfl⟩)
  go_ret;have e0:iZ []=[]:=by simp[iZ]
  exact⟨[],ob,0,a.out.1,rfl,(by rw[e0];exact a.out.2.1),a.out.2.2⟩
 ·cases e1
  have oR:g<w2.heap.size:=(aw.1 o).1;have oY:=HS.out xs a.out.1;have u:=zH (xK g 0 cap xs w2 (holds_of_blockI o (by simpa using G)) oR (by omega));have oS:cr (∀(b:bw)(os:cC Obj),bq (Go.Sort.grow (Go.Sort.putRow (dv .i64) (Sort.ahead w2 b) g 0 (xs.mergeSort λx y=>decide (x<=y)).toArray) os) w.heap.size (ot (oa ⟨g,0,ob⟩) xs.length cap) (iZ xs)):=by
   intro b os;have j:=ownsRow_sortedI (w:=w2) (base:=w.heap.size) (g:=g) (cap:=cap) (n:=b) (e:=3) (os:=os) (cur:=cur) (ss:=xs) (ts:=iZ xs) (by unfold iZ;rw[lx]) (by omega) o e4 e5 e6;unfold bq;have e:(iZ xs).length=xs.length:=by unfold iZ;rw[lx]
   rw[e];exact j
  have oT:cr (∀(b:bw)(os:cC Obj),bj w.heap.size w (Go.Sort.grow (Go.Sort.putRow (dv .i64) (Sort.ahead w2 b) g 0 (xs.mergeSort λx y=>decide (x<=y)).toArray) os)):=by
   intro b os;exact a.out.2.2.trans ((Ext.of_grown (M:=(w.heap.size<=·)) (grownBy_sortedI (w:=w2) (g:=g) (n:=b) (os:=os) _) (λk v=> .inl (by cases v;show w.heap.size<=g;omega))).below a.out.2.2.size (λk v=>v))
  clear o G
  go_wp2_with (go_at_call 162;refine u.out.mono ?_;rintro e w9 ⟨rfl,b,os,pb⟩)
  go_ret;exact⟨xs,oa ⟨g,0,ob⟩,cap,a.out.1,rfl,oS.out b os,oT.out b os⟩
end
section
open Go.RowKit Go.Maps
theorem Bv:laidOutB ac=oc:=by kernel_rfl
theorem Ae:(164:eJ)<ac.types.size:=lO (by kernel_rfl)
theorem ze:ac.keyTypeAt 2 164=oc:=by kernel_rfl
theorem xL:Keyed ac 164:=Keyed.of_law (deep_law_laid Bv (m:=2) (show 2+1<=10000 from Nat.le_of_ble_eq_true rfl) Ae ze (by rw[cq]))
def iI (x:ct):Prop:= -9223372036854775808<=x/\x<=9223372036854775807
def eB (n:Nd):Prop:=iI n.1/\iI n.2.1/\iI n.2.2
def gI (n:Nd):bo:= oA #[Z U n.1,Z U n.2.1,Z U n.2.2]
theorem vU {n:Nd}(h:eB n):∃l,keyOf ac 164 (gI n)=oa l:=by
 have w1:=g8 h.1;have w2:=g8 h.2.1;have b:=g8 h.2.2;have d:ac.keyType 164=oc:=by kernel_rfl
 have a:ac.cellsOf 164=3:=by kernel_rfl
 have f:ac.cellsOf 3=1:=by kernel_rfl
 obtain⟨m,g⟩:∃m,ac.types.size=m+1:=⟨ac.types.size-1,by have:0<ac.types.size:=lO (by kernel_rfl);omega⟩
 unfold keyOf gI;simp only[cq];rw[cQ (by rw[d];simp[Value.formed,cq,a]),g];unfold Program.keyLits;simp only[cq,Value.cells];rw[cQ ⟨by rw[a];rfl,by kernel_rfl⟩];simp[Program.keyLits,gt,f,w1,w2,b]
theorem iD:xH ac 164 eB gI:=⟨xL,λ_ h=>vU h,λa b _ _ h=>by
 unfold gI at h;simp only[oA.injEq,Array.mk.injEq,nx,Value.int.injEq,true_and,and_true] at h;exact Prod.ext h.1 (Prod.ext h.2.1 h.2.2)⟩
theorem vV:(ac.info? 67).map (λi=>(i.zero,i.size,i.bytes))=oa (oa (oA #[Z U 0,Z U 0]),2,16):=by kernel_rfl
theorem vW:(ac.info? 164).map (λi=>(i.zero,i.size,i.bytes))=oa (oa (oA #[Z U 0,Z U 0,Z U 0]),3,24):=by kernel_rfl
theorem uq:(ac.info? 213).map (λi=>(i.zero,i.size,i.bytes))=oa (oa (oA #[Z U 0,Z U 0,Z U 0,Z U 0,oy od]),5,40):=by kernel_rfl
theorem nW:(ac.info? 215).map (λi=>(i.zero,i.size,i.bytes))=oa (oa (oA #[Z U 0,Z U 0,Z U 0,Z U 0]),4,32):=by kernel_rfl
def jK (n:Nd):bh bo:=[Z U n.1,Z U n.2.1,Z U n.2.2]
def AY (t:Th):bh bo:=[Z U t.1,Z U t.2.1.1,Z U t.2.1.2.1,Z U t.2.1.2.2,oy t.2.2]
def zf (p:Nd×bw):bh bo:=[Z U p.1.1,Z U p.1.2.1,Z U p.1.2.2,Z U (p.2:ct)]
def Ay (p:ct×ct):bh bo:=[Z U p.1,Z U p.2]
inductive PT
 |no|top|mh|mf|mg|si|td|set (n:Nd)|fl (n:Nd)|gl (n:Nd)
structure rY where
 siA:dr Addr
 siK:bw
 tdA:dr Addr
 tdC:bw
 hv:Nd->bo
 fv:Nd->bo
 gv:Nd->bo
def wT (m:Mo)(HM FM GM:bw)(s:rY)(a b:bw):cC bo:=
 #[ot m.sA m.ss.length m.sC,ot m.fA m.fs.length m.fC,ot s.siA a s.siK,.map (oa HM),.map (oa FM),.map (oa GM),ot s.tdA b s.tdC]
def kY (w:World)(tg:bw->PT)(H:bh (Nd×bw))(v:bo)(n:Nd):Prop:=
 (v= .map ob/\∀x,(n,x)∉H)\/∃b c S,v= .map (oa b)/\gG w b c S/\c<=H.length/\(∀z:ct,z∈S↔∃x:bw,z=(x:ct)/\(n,x)∈H)/\tg b= .set n
def nX (w:World)(B:bw)(tg:bw->PT)(e:eJ)(a:bw)(v:bo)(l:bh bo)(k:bw)(t:PT):Prop:=
 ∃b cap,v= ot b k cap/\w.ownsRow B e a v k l/\∀j,v.ownBlock=oa j->tg j=t
structure Pm (T HM FM GM:bw)(m:Mo)(B:bw)(tg:bw->PT)(s:rY)(p:PS)(w:World):Prop where
 row:w.heap[T]?=oa (oB (wT m HM FM GM s p.St.length p.td.length) 148 (0,0))
 hm:∃n,bW eB gI (.map ob) w HM n s.hv
 fm:∃n,bW eB gI (ot ob 0 0) w FM n s.fv
 gm:∃n,bW eB gI (ot ob 0 0) w GM n s.gv
 srow:w.ownsRow B 67 2 (ot s.siA p.St.length s.siK) p.St.length (p.St.flatMap Ay)
 trow:w.ownsRow B 215 4 (ot s.tdA p.td.length s.tdC) p.td.length (p.td.flatMap zf)
 hs:∀n,eB n->kY w tg p.H (s.hv n) n
 fs:∀n,eB n->nX w B tg 164 3 (s.fv n) ((p.fl n).flatMap jK) (p.fl n).length (.fl n)
 gs:∀n,eB n->nX w B tg 213 5 (s.gv n) ((p.gl n).flatMap AY) (p.gl n).length (.gl n)
 t1:tg T= .top
 t2:tg HM= .mh
 t3:tg FM= .mf
 t4:tg GM= .mg
 t5:∀k,(bk s.siA p.St.length s.siK).ownBlock=oa k->tg k= .si
 t6:∀k,(bk s.tdA p.td.length s.tdC).ownBlock=oa k->tg k= .td
 lo:∀k,tg k≠ .no->B<=k/\k<w.heap.size
 lS:p.St.length<=1000000
 lH:p.H.length<=500000000
 lT:p.td.length<=500000000
section
variable {T HM FM GM:bw}{m:Mo}{B:bw}{tg tg':bw->PT}{s:rY}{p p':PS}{w w' w1:World}{M:bw->Prop}{tg1:bw->PT}{Zk:PT->Prop}
theorem kY.ext {H:bh (Nd×bw)}{v:bo}{n:Nd}(h:kY w tg H v n)(d:Ext M w w')(f:∀k,M k->tg k≠ .set n):kY w' tg H v n:=by
 rcases h with h|⟨b,c,S,g,j,o,q,a⟩
 ·exact .inl h
 ·exact .inr ⟨b,c,S,g,j.ext d (λhb=>f b hb a),o,q,a⟩
theorem kY.tag {H:bh (Nd×bw)}{v:bo}{n:Nd}(h:kY w tg H v n)(d:∀k,tg k≠ .no->tg' k=tg k):kY w tg' H v n:=by
 rcases h with h|⟨b,c,S,f,g,j,o,a⟩
 ·exact .inl h
 ·exact .inr ⟨b,c,S,f,g,j,o,(d b (by rw[a];simp)).trans a⟩
theorem nX.ext {e:eJ}{a k:bw}{v:bo}{l:bh bo}{t:PT}(h:nX w B tg e a v l k t)(d:Ext M w w')(f:∀k,M k->tg k≠t):nX w' B tg e a v l k t:=by
 obtain⟨g,cap,o,q,b⟩:=h;exact⟨g,cap,o,af q d (λj u y=>f j y (b j u)),b⟩
theorem nX.tag {e:eJ}{a k:bw}{v:bo}{l:bh bo}{t:PT}(h:nX w B tg e a v l k t)(f:t≠ .no)(g:∀k,tg k≠ .no->tg' k=tg k):nX w B tg' e a v l k t:=by
 obtain⟨o,cap,q,u,b⟩:=h;exact⟨o,cap,q,u,λj d=>(g j (by rw[b j d];exact f)).trans (b j d)⟩
theorem Pm.grow (h:Pm T HM FM GM m B tg s p w)(hb:bj w.heap.size w w'):Pm T HM FM GM m B tg s p w':=by
 have a:Ext (λ_=>fW) w w':=Ext.of_below_size hb;exact⟨a.heap h.row (λh=>h),h.hm.imp λ_ q=>q.ext a (λh=>h),h.fm.imp λ_ q=>q.ext a (λh=>h),h.gm.imp λ_ q=>q.ext a (λh=>h),
  af h.srow a (λ_ _ h=>h),af h.trow a (λ_ _ h=>h),λn b=>(h.hs n b).ext a (λ_ h=>h.elim),λn b=>(h.fs n b).ext a (λ_ h=>h.elim),λn b=>(h.gs n b).ext a (λ_ h=>h.elim),
  h.t1,h.t2,h.t3,h.t4,h.t5,h.t6,λk d=>⟨(h.lo k d).1,cg (h.lo k d).2 a.size⟩,h.lS,h.lH,h.lT⟩
def aQ (Zk:PT->Prop)(T HM FM GM:bw)(m:Mo)(B:bw)(tg:bw->PT)(p:PS)(w w':World):Prop:=
 ∃tg' s',Pm T HM FM GM m B tg' s' p w'/\Ext (λk=>tg k≠ .no/\¬Zk (tg k)) w w'/\(∀k,tg' k≠ .no->tg k≠ .no\/w.heap.size<=k)/\∀k,tg k≠ .no->tg' k=tg k
def ZA (t:PT):Prop:=(∃n,t= .fl n)\/∃n,t= .gl n
def ZF (t:PT):Prop:=∃n,t= .gl n
def Z0 (_:PT):Prop:=fW
theorem Pm.same (h:Pm T HM FM GM m B tg s p w)(hb:bj w.heap.size w w'):aQ Zk T HM FM GM m B tg p w w':=⟨tg,s,h.grow hb,Ext.of_below_size hb,λ_ a=> .inl a,λ_ _=>rfl⟩
theorem aQ.weak {a:PT->Prop}(h:aQ Zk T HM FM GM m B tg p w w')(d:∀t,a t->Zk t):aQ a T HM FM GM m B tg p w w':=by
 obtain⟨tg1,s1,f,g,j⟩:=h;exact⟨tg1,s1,f,g.mono (λk b=>⟨b.1,λq=>b.2 (d _ q)⟩),j⟩
theorem aQ.step (h:Ext (λk=>tg k≠ .no/\¬Zk (tg k)) w w1)(b:(∀k,tg1 k≠ .no->tg k≠ .no\/w.heap.size<=k)/\∀k,tg k≠ .no->tg1 k=tg k)(d:aQ Zk T HM FM GM m B tg1 p' w1 w'):aQ Zk T HM FM GM m B tg p' w w':=by
 obtain⟨f,g,j,o,u,v⟩:=d;refine⟨f,g,j,h.trans o (λk a=> ?_),λk a=> ?_,λk a=> ?_⟩
 ·rcases b.1 k a.1 with q|q
  ·exact .inl ⟨q,by rw[<-b.2 k q];exact a.2⟩
  ·exact .inr q
 ·rcases u k a with q|q
  ·exact b.1 k q
  ·exact .inr (cv h.size q)
 ·have:=b.2 k a
  rw[<-this];exact v k (by rw[this];exact a)
theorem aQ.below (hb:bj w.heap.size w w1)(h:aQ Zk T HM FM GM m B tg p w1 w'):aQ Zk T HM FM GM m B tg p w w':=by
 obtain⟨tg',s',a,b,d,f⟩:=h;exact⟨tg',s',a,(Ext.of_below_size hb).trans b (λq g=> .inl g),λk j=>(d k j).imp id (λh=>cv hb.size h),f⟩
end
end
section
open Go.RowKit Go.Maps
section
variable {T HM FM GM:bw}{m:Mo}{B:bw}{tg:bw->PT}{s:rY}{p:PS}{w W w' w2 w9:World}
theorem Pm.base (h:Pm T HM FM GM m B tg s p w):B<=w.heap.size:=by
 have:=h.lo T (by rw[h.t1];simp);omega
open Classical in
theorem Pm.newset {b c:bw}{n:Nd}(h:Pm T HM FM GM m B tg s p w)(h0:∀x,(n,x)∉p.H)(y:Ext (λ_=>fW) w W)(G:gG W b 0 [])(hb:w.heap.size<=b)
  (A:Ext (·=HM) W w')(N:bW eB gI (.map ob) w' HM c (um s.hv n (.map (oa b)))):
  Pm T HM FM GM m B (λk=>if k=b then .set n else tg k) {s with hv:=um s.hv n (.map (oa b))} p w'/\Ext (λk=>tg k≠ .no/\¬ZA (tg k)) w w'/\gG w' b 0 []:=by
 have R:=G.lt;have hB:=h.base;have oR:=(h.lo HM (by rw[h.t2];simp)).2;have f:∀k,tg k≠ .no->(λk=>if k=b then PT.set n else tg k) k=tg k:=λk g=>cy (by have:=(h.lo k g).2;omega);have d:Ext (·=HM) w w':=(y.mono (λ_ h=>h.elim)).trans A (λk e=> .inl e);have o:∀{k:bw}{t:PT},tg k=t->t≠ .mh->¬k=HM:=λY h2 e=>h2 (by rw[<-Y,e,h.t2]);have J:gG w' b 0 []:=G.ext A (by omega);refine⟨⟨d.heap h.row (o h.t1 (by simp)),⟨c,N⟩,h.fm.imp λ_ q=>q.ext d (o h.t3 (by simp)),h.gm.imp λ_ q=>q.ext d (o h.t4 (by simp)),
  af h.srow d (λj D e=>o (h.t5 j D) (by simp) e),af h.trow d (λj D e=>o (h.t6 j D) (by simp) e),λu v=> ?_,
  λu v=>((h.fs u v).ext d (λk e q=>o q (by simp) e)).tag (by simp) f,λu v=>((h.gs u v).ext d (λk e q=>o q (by simp) e)).tag (by simp) f,
  (f T (by rw[h.t1];simp)).trans h.t1,(f HM (by rw[h.t2];simp)).trans h.t2,(f FM (by rw[h.t3];simp)).trans h.t3,(f GM (by rw[h.t4];simp)).trans h.t4,
  λk g=>(f k (by rw[h.t5 k g];simp)).trans (h.t5 k g),λk g=>(f k (by rw[h.t6 k g];simp)).trans (h.t6 k g),λk g=> ?_,h.lS,h.lH,h.lT⟩,d.mono (λk e=>by rw[e,h.t2];simp[ZA]),J⟩
 ·by_cases e:u=n
  ·subst e
   refine .inr ⟨b,0,[],fG _ _,J,da _,λz=>⟨λhz=>by simp at hz,λ⟨x,_,y⟩=>gC y (h0 x)⟩,cQ rfl⟩
  ·have:=((h.hs u v).ext d (λk e q=>o q (by simp) e)).tag f
   rw[<-iY (F:=s.hv) (a:=n) e (.map (oa b))] at this;exact this
 ·by_cases e:k=b
  ·subst e
   exact⟨by omega,cg R A.size⟩
  ·have K:tg k≠ .no:=λq=>g (by show(if k=b then PT.set n else tg k)=_;rw[cy e];exact q)
   exact⟨(h.lo k K).1,cg (h.lo k K).2 d.size⟩
theorem kY.more {H:bh (Nd×bw)}{v:bo}{n a:Nd}{x:bw}(h:kY w tg H v a)(o:¬a=n):kY w tg (H++[(n,x)]) v a:=by
 have f:∀y,(a,y)∈H++[(n,x)]↔(a,y)∈H:=λy=>by
  rw[cw,co];exact⟨λq=>q.elim id (λe=>gC (dy Prod.fst e) o),.inl⟩
 rcases h with⟨g,j⟩|⟨b,c,S,g,j,u,A,D⟩
 ·exact .inl ⟨g,λy d=>j y ((f y).1 d)⟩
 ·refine .inr ⟨b,c,S,g,j,cv u (by simp),λz=> ?_,D⟩
  rw[A];exact⟨λ⟨y,e,d⟩=>⟨y,e,(f y).2 d⟩,λ⟨y,e,d⟩=>⟨y,e,(f y).1 d⟩⟩
open Classical in
theorem Pm.added {b c:bw}{S:bh ct}{n:Nd}{x:bw}{a:dr Addr}{d:bw}
  (h:Pm T HM FM GM m B tg s p w)(hv:s.hv n= .map (oa b))(hb:tg b= .set n)(hc:c<=p.H.length)(hS:∀z:ct,z∈S↔∃x:bw,z=(x:ct)/\(n,x)∈p.H)
  (h0:(n,x)∉p.H)(lH:p.H.length+1<=500000000)(lT:p.td.length+1<=500000000)
  (h2:gG w2 b (c+1) ((x:ct)::S))(D:Ext (·=b) w w2)
  (h9:w9.ownsRow B 215 4 (ot a (p.td.length+1) d) (p.td.length+1) (p.td.flatMap zf++zf (n,x)))
  (oR:Ext (λq=>(bk s.tdA p.td.length s.tdC).ownBlock=oa q) w2 w9)
  (K:∀k,(bk a (p.td.length+1) d).ownBlock=oa k->(bk s.tdA p.td.length s.tdC).ownBlock=oa k\/w2.heap.size<=k):
  aQ ZA T HM FM GM m B tg (p.add n x) w (w9.setCell ⟨T,6,ob⟩ (ot a (p.td.length+1) d)):=by
 have hp:p.add n x={p with H:=p.H++[(n,x)],td:=p.td++[(n,x)]}:=cy h0;rw[hp];obtain⟨v,N⟩:=zE (w9.setCell ⟨T,6,ob⟩ (ot a (p.td.length+1) d));rw[N];have hB:=h.base;have oS:T≠b:=λe=>by have:=h.t1;rw[e,hb] at this;simp at this
 have oT:¬(bk s.tdA p.td.length s.tdC).ownBlock=oa T:=λe=>by have:=h.t6 T e;rw[h.t1] at this;simp at this
 have oX:Ext (·=T) w9 v:=by rw[<-N];exact Ext.set1 w9 T 6 _
 have pi:=D.heap h.row oS;have pj:=oR.heap pi oT;have oY:=aq w9 T 6 _ _ (ot a (p.td.length+1) d) pj;rw[N] at oY;have pb:Ext (λq=>q=T\/(bk s.tdA p.td.length s.tdC).ownBlock=oa q) w2 v:=(oR.mono (λq h=> .inr h)).trans oX (λq e=> .inl (.inl e));have o:Ext (λq=>q=b\/q=T\/(bk s.tdA p.td.length s.tdC).ownBlock=oa q) w v:=(D.mono (λq h=> .inl h)).trans pb (λq e=> .inl (.inr e));have g:∀k,tg k≠ .no->(λk=>if (bk a (p.td.length+1) d).ownBlock=oa k then PT.td else tg k) k=tg k:=λk f=>by
  show(if (bk a (p.td.length+1) d).ownBlock=oa k then PT.td else tg k)=tg k
  by_cases e:(bk a (p.td.length+1) d).ownBlock=oa k
  ·rw[cQ e]
   rcases K k e with q|q
   ·exact(h.t6 k q).symm
   ·have:=(h.lo k f).2
    have:=D.size;omega
  ·rw[cy e]
 have A:∀{k:bw}{t:PT},tg k=t->t≠ .set n->t≠ .top->t≠ .td->¬(k=b\/k=T\/(bk s.tdA p.td.length s.tdC).ownBlock=oa k):=λR q1 Y q3 e=>by
  rcases e with e|e|e
  ·exact q1 (by rw[<-R,e,hb])
  ·exact Y (by rw[<-R,e,h.t1])
  ·exact q3 (by rw[<-R];exact h.t6 _ e)
 have J:(p.td++[(n,x)]).length=p.td.length+1:=by simp
 have pc:(p.H++[(n,x)]).length=p.H.length+1:=by simp
 have pd:v.ownsRow B 215 4 (ot a (p.td.length+1) d) (p.td.length+1) (p.td.flatMap zf++zf (n,x)):=af h9 oX (λk f e=>by
  subst e;rcases K _ f with q|q
  ·exact oT q
  ·have:=(h.lo _ (show tg _≠ .no by rw[h.t1];simp)).2
   have:=D.size;omega)
 refine⟨λk=>if (bk a (p.td.length+1) d).ownBlock=oa k then .td else tg k,{s with tdA:=a,tdC:=d},⟨?_,h.hm.imp λ_ q=>q.ext o (A h.t2 (by simp) (by simp) (by simp)),h.fm.imp λ_ q=>q.ext o (A h.t3 (by simp) (by simp) (by simp)),h.gm.imp λ_ q=>q.ext o (A h.t4 (by simp) (by simp) (by simp)),
  af h.srow o (λj hj=>A (h.t5 j hj) (by simp) (by simp) (by simp)), ?_,λu G=> ?_,
  λu G=>((h.fs u G).ext o (λk e q=>A q (by simp) (by simp) (by simp) e)).tag (by simp) g,λu G=>((h.gs u G).ext o (λk e q=>A q (by simp) (by simp) (by simp) e)).tag (by simp) g,
  (g T (by rw[h.t1];simp)).trans h.t1,(g HM (by rw[h.t2];simp)).trans h.t2,(g FM (by rw[h.t3];simp)).trans h.t3,(g GM (by rw[h.t4];simp)).trans h.t4,
  λk f=>(g k (by rw[h.t5 k f];simp)).trans (h.t5 k f),λk f=> ?_,λk f=> ?_,h.lS,by show(p.H++[(n,x)]).length<=_;rw[pc];omega,by show(p.td++[(n,x)]).length<=_;rw[J];omega⟩,
  o.mono (λk e=> ?_),λk f=> ?_,g⟩
 ·show v.heap[T]?=oa (oB (wT m HM FM GM {s with tdA:=a,tdC:=d} p.St.length (p.td++[(n,x)]).length) 148 (0,0))
  rw[J];exact oY
 ·show v.ownsRow B 215 4 (ot a (p.td++[(n,x)]).length d) (p.td++[(n,x)]).length ((p.td++[(n,x)]).flatMap zf)
  rw[J,dk,jz];exact pd
 ·show kY v (λk=>if (bk a (p.td.length+1) d).ownBlock=oa k then .td else tg k) (p.H++[(n,x)]) (s.hv u) u
  by_cases e:u=n
  ·subst e
   have pk:¬(b=T\/(bk s.tdA p.td.length s.tdC).ownBlock=oa b):=λe=>by
    rcases e with e|e
    ·exact oS e.symm
    ·have:=h.t6 b e
     rw[hb] at this;simp at this
   refine .inr ⟨b,c+1,(x:ct)::S,hv,h2.ext pb pk,by rw[pc];omega,λz=> ?_,(g b (by rw[hb];simp)).trans hb⟩;rw[eR,hS];constructor
   ·rintro(e|⟨y,e,hy⟩)
    ·exact⟨x,e,cR _ (co.2 rfl)⟩
    ·exact⟨y,e,cn _ hy⟩
   ·rintro⟨y,e,hy⟩
    rcases cw.1 hy with q|q
    ·exact .inr ⟨y,e,q⟩
    ·simp only[co,lR,true_and] at q
     exact .inl (by rw[e,q])
  ·refine(((h.hs u G).ext o (λk q Y=> ?_)).tag g).more e
   refine A Y ?_ (by simp) (by simp) q;simpa using e
 ·have pf:(bk a (p.td++[(n,x)]).length d).ownBlock=oa k:=f
  rw[J] at pf;exact cQ pf
 ·by_cases e:(bk a (p.td.length+1) d).ownBlock=oa k
  ·exact pd.lt k e
  ·have ph:tg k≠ .no:=λq=>f (by show(if (bk a (p.td.length+1) d).ownBlock=oa k then PT.td else tg k)=_;rw[cy e];exact q)
   exact⟨(h.lo k ph).1,cg (h.lo k ph).2 o.size⟩
 ·rcases e with e|e|e
  ·rw[e,hb];simp[ZA]
  ·rw[e,h.t1];simp[ZA]
  ·rw[h.t6 k e];simp[ZA]
 ·by_cases e:(bk a (p.td.length+1) d).ownBlock=oa k
  ·rcases K k e with q|q
   ·exact .inl (by rw[h.t6 k q];simp)
   ·exact .inr (cv D.size q)
  ·exact .inl λq=>f (by show(if (bk a (p.td.length+1) d).ownBlock=oa k then PT.td else tg k)=_;rw[cy e];exact q)
end
end
end Go.Proofs.YtjomgckjhcfbgaaGreat
