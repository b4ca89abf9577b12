/- Walks. -/
import Derived.Maps.OwnOps
import Derived.Maps.Views
import Derived.DeepKeys4
import Derived.Test.YtjomgckjhcfbgaaGreatP5
import Derived.Test.YtjomgckjhcfbgaaGreatP15
set_option maxRecDepth 100000
set_option maxHeartbeats 64000000
set_option linter.all false
namespace Go.Proofs.YtjomgckjhcfbgaaGreat
open Go.RowKit
open Go.Proofs.Tryz renaming prog→am,underlying3→cX,underlying35→gv,underlying121→nh,ntmps147→ob,func147→oR,underlying119→oX,ntmps152→pc,func152→pL,ntmps118→pS,func118→rl
open _root_.List renaming getElem?_eq_getElem→ap,getElem?_eq_some_iff→bo,mem_of_getElem?→ci,take_length→cL,mem_singleton→cP,mem_append→dg,length_cons→eh,flatMap_append→fS,mem_cons→fW,range→gb,all_eq_true→gn,any_eq_true→js,any_eq_false→j8,length_pos_iff→kq,getElem?_append_left→mz,getD_eq_getElem?_getD→nj,mem_range→pf,not_mem_nil→pP,getElem?_map→qs,nodup_cons→sx,getElem?_append→sX
open Go.RowKit.Below renaming refl→aq
open _root_ renaming Int→aw,Nat→bj,List→bp,if_neg→bw,decide_eq_false→cm,Option→cC,if_pos→cH,decide_eq_true→cR,Array→dl,beq_false_of_ne→eR,absurd→fz,beq_self_eq_true→kO,False→lj,Bool→ml,of_decide_eq_true→mw,decide_eq_true_eq→oY
open Go.RowKit renaming Below→aE,Hid→cg,intOf→dp
open Go renaming heap_setCell_same→bk,cell_of_row→bt,Value→cw,maxLen→du,Addr→fg,Calls→fj,TypeId→fX,MemPlace→m5,info_parts→m6,plainElem→ra
open _root_.Nat renaming le_refl→cd,lt_of_lt_of_le→cD,zero_add→cI,zero_le→cM,le_trans→eN
open Go.Value renaming oneCell'→cn,slice→cv,int→eS,slice→tn,pointer→tr,bool→tt,agg→tv,int→Z
open _root_.Option.some renaming inj→cy
open Go.Addr renaming add_lit→cU
open Go.IntKind renaming i64→dt,signed→ef,wrap→eC,bits→eE,i64→U
open _root_.Bool renaming and_eq_true→ej,true→ti,false→tj
open _root_.Int renaming toNat_natCast→ep
open _root_.Option renaming map_eq_some_iff→gE,some→tf,none→th
open Go.Instr renaming lookup→mx
open _root_.Classical renaming byContradiction→mC
open Go.WalkArith renaming wf_i64→nw
open _root_.Prod.mk renaming injEq→pp,inj→rk
open Go.Lib renaming run_eql_slice_nil→te
open Go.Obj renaming cells→tA
open Go.Ending renaming returned→tB
open Tryz
theorem lm {α:Type}{f:α->aw}:∀{l:bp α},aQ f l=0->∀x∈l,f x=0
 |[],_,x,g=>fz g (by simp)
 |y::r,h,x,g=>by
  unfold aQ at h
  by_cases d:f y=0
  ·rw[cH d] at h
   rcases fW.1 g with e|e
   ·rw[e];exact d
   ·exact lm h x e
  ·rw[bw d] at h;exact fz h d
theorem gH {b:ml}{f:aw}(hf:f≠0)(h:bN b f=0):b=ti:=by
 unfold bN at h;cases b with
 |true=>rfl
 |false=>rw[bw (by simp)] at h;exact fz h hf
theorem bJ {n:bj}{v:aw}:isVar n v=ti↔0<=v/\v<(n:aw):=by
 unfold isVar;simp
theorem gX {m:Mo}(h:gZ m=0):m.fs.length<=60/\m.ss.length<=30/\dh m=tj/\(bO m).all m.known=ti/\(∀g∈m.fs,codeF m g=0)/\0<=m.fnIx dA:=by
 unfold gZ at h
 by_cases j:30<m.ss.length\/60<m.fs.length
 ·rw[cH j] at h;exact fz h (by decide)
 ·rw[bw j] at h
  by_cases e:dh m=ti
  ·rw[cH e] at h;exact fz h (by decide)
  ·rw[bw e] at h
   by_cases f:(bO m).all m.known=tj
   ·rw[cH f] at h;exact fz h (by decide)
   ·rw[bw f] at h
    by_cases d:aQ (codeF m) m.fs≠0
    ·rw[cH d] at h;exact fz h d
    ·rw[bw d] at h
     have o:=gH (by decide) h;rw[ej,oY] at o;exact⟨by omega,by omega,by simpa using e,by simpa using f,lm (mC d),o.1⟩
theorem kE {m:Mo}{g:Fn}(h:codeF m g=0):g.vs.length<=300/\1<=g.c.ins.length/\g.c.ins.length<=3000/\0<=g.c.par/\g.c.par<=(g.vs.length:aw)/\(∀i∈g.c.ins,aF m g i=0):=by
 unfold codeF at h
 by_cases e:300<g.vs.length\/g.c.ins.length<1\/3000<g.c.ins.length
 ·rw[cH e] at h;exact fz h (by decide)
 ·rw[bw e] at h
  by_cases f:g.c.par<0\/(g.vs.length:aw)<g.c.par
  ·rw[cH f] at h;exact fz h (by decide)
  ·rw[bw f] at h
   by_cases d:aQ (aF m g) g.c.ins≠0
   ·rw[cH d] at h;exact fz h d
   ·exact⟨by omega,by omega,by omega,by omega,by omega,lm (mC d)⟩
theorem jC {m:Mo}{g:Fn}{i:Ins}(h:aF m g i=0):1<=i.op/\i.op<=18/\(∀v∈readsOf i,isVar g.vs.length v=ti)/\(qH i.op=ti->isVar g.vs.length i.d=ti)/\(i.op=15->gU m g.vs i=0):=by
 unfold aF at h
 by_cases j:i.op<1\/18<i.op
 ·rw[cH j] at h;exact fz h (by decide)
 ·rw[bw j] at h
  by_cases f:aK g.vs.length (readsOf i++(if qH i.op then[i.d] else[]))=tj
  ·rw[cH f] at h;exact fz h (by decide)
  ·rw[bw f] at h
   have e:aK g.vs.length (readsOf i++(if qH i.op then[i.d] else[]))=ti:=by simpa using f
   unfold aK at e;rw[List.all_append,ej,gn] at e;refine⟨by omega,by omega,e.1,λq=> ?_,λt=> ?_⟩
   ·have o:=e.2
    rw[q] at o;simpa using o
   ·rw[cH t] at h;exact h
theorem BH {m:Mo}{vs:bp Vr}{i:Ins}(h:gU m vs i=0):0<=i.f/\∃g,m.fs[i.f.toNat]?=tf g/\(i.args.length:aw)=g.c.par/\g.c.par<=(g.vs.length:aw)/\il vs g.vs 0 i.args=ti/\ax vs i.d=g.ret:=by
 unfold gU at h
 by_cases j:i.f<0
 ·rw[cH j] at h;exact fz h (by decide)
 ·rw[bw j] at h
  cases o:m.fs[i.f.toNat]? with
  |none=>rw[o] at h;exact fz h (by simp)
  |some g=>
   rw[o] at h;simp only at h
   by_cases q:(i.args.length:aw)≠g.c.par\/(g.vs.length:aw)<g.c.par
   ·rw[cH q] at h;exact fz h (by decide)
   ·rw[bw q] at h
    by_cases e:il vs g.vs 0 i.args=tj
    ·rw[cH e] at h;exact fz h (by decide)
    ·rw[bw e] at h
     have t:=gH (by decide) h;exact⟨by omega,g,rfl,by omega,by omega,by simpa using e,by simpa using t⟩
def bF (f:aw):bj->bp Vr->bp (aw×aw)
 |_,[]=>[]
 |v,x::r=>(if x.ptr=ti then[(f,(v:aw))] else[])++bF f (v+1) r
def cK (f:aw)(g:Fn):bp (aw×aw):=bF f 0 g.vs++(if g.c.rp=ti then[(f,-1)] else[])
def bU:bj->bp Fn->bp (aw×aw)
 |_,[]=>[]
 |f,g::r=>cK f g++bU (f+1) r
def Mo.ptrs (m:Mo):bp (aw×aw):=bU 0 m.fs
def aJ:bj->bp (aw×aw)->aw×aw->aw
 |_,[],_=>0
 |k,p::r,x=>if p=x then 2*(k:aw)+1 else aJ (k+1) r x
theorem lU {x:aw×aw}:∀{P:bp (aw×aw)}{k:bj},x∈P->2*(k:aw)+1<=aJ k P x/\aJ k P x+1<=2*((k:aw)+(P.length:aw))
 |[],_,h=>fz h (by simp)
 |p::r,k,h=>by
  unfold aJ
  by_cases d:p=x
  ·rw[cH d,eh];omega
  ·rw[bw d,eh]
   have:=lU (P:=r) (k:=k+1) (by rcases fW.1 h with e|e;exact fz e.symm d;exact e);omega
theorem jS {x:aw×aw}:∀{P:bp (aw×aw)}{k:bj},x∉P->aJ k P x=0
 |[],_,_=>rfl
 |p::r,k,h=>by
  unfold aJ;rw[bw (λe=>h (by rw[e];simp))];exact jS (λd=>h (by simp[d]))
theorem sO {x:aw×aw}:∀{P:bp (aw×aw)}{k i:bj},P.Nodup->P[i]?=tf x->aJ k P x=2*((k+i:bj):aw)+1
 |[],_,i,_,h=>by simp at h
 |p::r,k,i,f,h=>by
  obtain⟨g,j⟩:=sx.1 f;unfold aJ;cases i with
  |zero=>
   obtain rfl:p=x:=by simpa using h
   rw[cH rfl];omega
  |succ i=>
   have d:r[i]?=tf x:=by simpa using h
   rw[bw (λe=>g (by rw[e];exact ci d)),sO j d];omega
theorem gI {f:aw}{x:aw×aw}:∀{l:bp Vr}{v:bj},x∈bF f v l↔∃(k:bj) (y:Vr),l[k]?=tf y/\y.ptr=ti/\x=(f,((v+k:bj):aw))
 |[],v=>by simp[bF]
 |y::r,v=>by
  unfold bF;rw[dg,gI];constructor
  ·rintro(h|⟨k,z,d,e,g⟩)
   ·by_cases j:y.ptr=ti
    ·rw[cH j,cP] at h
     exact⟨0,y,rfl,j,by rw[h];rfl⟩
    ·rw[bw j] at h;exact fz h (by simp)
   ·exact⟨k+1,z,by simpa using d,e,by rw[g];congr 2;omega⟩
  ·rintro⟨k,z,d,e,g⟩
   cases k with
   |zero=>
    obtain rfl:y=z:=by simpa using d
    exact .inl (by rw[cH e,g];simp)
   |succ k=>exact .inr ⟨k,z,by simpa using d,e,by rw[g];congr 2;omega⟩
theorem iO {x:aw×aw}:∀{l:bp Fn}{f:bj},x∈bU f l↔∃(k:bj) (g:Fn),l[k]?=tf g/\x∈cK ((f+k:bj):aw) g
 |[],f=>by simp[bU]
 |g::r,f=>by
  unfold bU;rw[dg,iO];constructor
  ·rintro(h|⟨k,z,d,e⟩)
   ·exact⟨0,g,rfl,h⟩
   ·exact⟨k+1,z,by simpa using d,by rw[show f+(k+1)=f+1+k by omega];exact e⟩
  ·rintro⟨k,z,d,e⟩
   cases k with
   |zero=>
    obtain rfl:g=z:=by simpa using d
    exact .inl e
   |succ k=>exact .inr ⟨k,z,by simpa using d,by rw[show f+1+k=f+(k+1) by omega];exact e⟩
theorem eF {m:Mo}{f:bj}{g:Fn}(h:m.fs[f]?=tf g){v:aw}(j:isVar g.vs.length v=ti)(d:(ax g.vs v).1=ti):((f:aw),v)∈m.ptrs:=by
 obtain⟨o,q⟩:=bJ.1 j;unfold Mo.ptrs;rw[iO];refine⟨f,g,h, ?_⟩;unfold cK;rw[dg,gI];obtain⟨n,rfl⟩:∃n:bj,v=(n:aw):=⟨v.toNat,by omega⟩
 obtain⟨y,e⟩:∃y,g.vs[n]?=tf y:=⟨_,ap (by omega)⟩
 refine .inl ⟨n,y,e, ?_,by rw[cI,cI]⟩;unfold ax at d;rw[ep,e] at d;exact d
theorem EE {m:Mo}{f:bj}{g:Fn}(d:m.fs[f]?=tf g)(e:g.ret.1=ti):((f:aw),(-1:aw))∈m.ptrs:=by
 unfold Mo.ptrs;rw[iO];refine⟨f,g,d, ?_⟩;unfold cK;rw[cH (show g.c.rp=ti from e),dg,cI];exact .inr (by simp)
theorem oz {m:Mo}{f v:aw}(h:(f,v)∈m.ptrs):∃(k:bj) (g:Fn),m.fs[k]?=tf g/\f=(k:aw)/\((v= -1/\g.ret.1=ti)\/(isVar g.vs.length v=ti/\(ax g.vs v).1=ti)):=by
 unfold Mo.ptrs at h;rw[iO] at h;obtain⟨k,g,q,h⟩:=h;rw[cI] at h;unfold cK at h;rw[dg,gI] at h;refine⟨k,g,q, ?_⟩;rcases h with⟨j,y,e,t,o⟩|h
 ·rw[cI] at o
  obtain⟨rfl,rfl⟩:=rk o;refine⟨rfl,.inr ⟨bJ.2 ⟨by omega,by have:=(bo.1 e).1;omega⟩, ?_⟩⟩;unfold ax;rw[ep,e];exact t
 ·by_cases d:g.c.rp=ti
  ·rw[cH d,cP] at h
   obtain⟨rfl,rfl⟩:=rk h;exact⟨rfl,.inl ⟨rfl,d⟩⟩
  ·rw[bw d] at h;exact fz h (by simp)
def l9 (o:aw->aw)(p:aw)(d:ml)(a:aw):bp (bp aw):=
 if p=0 then[] else[[-p,o a]]++(if d=ti then[[-p]] else[])++[[-(p+1),o a,o a+1]]
def eG (beh:aw->ml)(d:aw)(args:bp aw)(n:bj)(a:aw):ml:=((gb args.length).any λj=>decide (j≠n)&&args.getD j 0==a)||(decide (a≠d)&&beh a)
def mI (P:bp (aw×aw))(o:aw->aw)(beh:aw->ml)(i:Ins):bj->bp aw->bp (bp aw)
 |_,[]=>[]
 |n,a::r=>l9 o (aJ 0 P (i.f,(n:aw))) (eG beh i.d i.args n a) a++mI P o beh i (n+1) r
def gJ (P:bp (aw×aw))(f:aw)(beh:aw->ml)(i:Ins):bp (bp aw):=
 let o:aw->aw:=λv=>aJ 0 P (f,v)
 if i.op=12 then[[o i.d]]
 else if i.op=13 then[[o i.a]]
 else if i.op=9 then[[-(o i.d),o i.a]]++(if i.a≠i.d/\beh i.a=ti then[[-(o i.d)]] else[])++[[-(o i.d+1),o i.a,o i.a+1]]
 else if i.op=10 then[[-(o i.d),o i.a,o i.a+1],[-(o i.d+1),o i.a,o i.a+1]]
 else if i.op=8 then[[o i.a,o i.a+1]]
 else if i.op=11 then[[o i.b],[o i.a,o i.a+1]]++(if beh i.b=ti then[[-(o i.b)]] else[])
 else if i.op=15 then mI P o beh i 0 i.args++(if 0<o i.d then[[-(o i.d),aJ 0 P (i.f,-1)],[o i.d,-(aJ 0 P (i.f,-1))],[-(o i.d+1),aJ 0 P (i.f,-1)+1],[o i.d+1,-(aJ 0 P (i.f,-1)+1)]] else[])
 else if i.op=18 then(if o (-1)=0 then[] else[[-(o (-1)),o i.a],[o (-1),-(o i.a)],[-(o (-1)+1),o i.a+1]])
 else[]
def gY (N:aw)(x:aw):Prop:=x≠0/\x<=N/\-N<=x
def BI (N:aw)(c:bp aw):Prop:=1<=c.length/\c.length<=3/\∀x∈c,gY N x
section
variable {N a b:aw}
theorem vR (h:gY N a):BI N [a]:=⟨by simp,by simp,λx d=>by rw[cP] at d;rw[d];exact h⟩
theorem jT (h:gY N a)(f:gY N b):BI N [a,b]:=⟨by simp,by simp,λx d=>by rcases fW.1 d with e|d;rw[e];exact h;rw[cP] at d;rw[d];exact f⟩
theorem Ct {c:aw}(h:gY N a)(f:gY N b)(g:gY N c):BI N [a,b,c]:=⟨by simp,by simp,λx d=>by rcases fW.1 d with e|d;rw[e];exact h;exact(jT f g).2.2 x d⟩
theorem bW {P:bp (aw×aw)}{x:aw×aw}(h:x∈P):gY (2*(P.length:aw)) (aJ 0 P x)/\gY (2*(P.length:aw)) (-(aJ 0 P x))/\gY (2*(P.length:aw)) (aJ 0 P x+1)/\gY (2*(P.length:aw)) (-(aJ 0 P x+1)):=by
 have:=lU (k:=0) h;unfold gY;omega
end
theorem oC {P:bp (aw×aw)}{x:aw×aw}(h:aJ 0 P x≠0):x∈P:=mC λd=>h (jS d)
theorem zY {d e:bp Vr}:∀{l:bp aw}{k n:bj}{a:aw},il d e k l=ti->l[n]?=tf a->ax d a=ax e ((k+n:bj):aw)
 |[],_,_,_,_,h=>by simp at h
 |x::r,k,n,a,h,f=>by
  unfold il at h;rw[ej] at h;cases n with
  |zero=>
   obtain rfl:x=a:=by simpa using f
   exact eq_of_beq h.1
  |succ n=>
   have:=zY (k:=k+1) (n:=n) h.2 (by simpa using f);rw[this];congr 2;omega
theorem mX {m:Mo}{e:bp Vr}{i:Ins}{o:aw}{j:ml}(h:cu m e i o j=0):(ax e i.a).1=ti/\(ax e o).1=j:=by
 unfold cu at h
 by_cases d:(aI m e i.a i.f).2≠0
 ·rw[cH d] at h;exact fz h d
 ·rw[bw d] at h
  have g:=gH (by decide) h;rw[ej] at g;refine⟨?_, ?_⟩
  ·unfold aI at d
   cases q:(ax e i.a).1 with
   |true=>rfl
   |false=>rw[cH q] at d;exact fz (by decide) d
  ·rw[<-eq_of_beq g.1];exact eq_of_beq g.2
theorem zZ {m:Mo}{g:Fn}{i:Ins}(h:aF m g i=0):
  (i.op=12->(ax g.vs i.d).1=ti)/\(i.op=13->(ax g.vs i.a).1=ti)/\(i.op=9->(ax g.vs i.a).1=ti/\(ax g.vs i.d).1=ti)/\
  (i.op=10->(ax g.vs i.a).1=ti/\(ax g.vs i.d).1=ti)/\(i.op=8->(ax g.vs i.a).1=ti)/\(i.op=11->(ax g.vs i.a).1=ti/\(ax g.vs i.b).1=ti)/\(i.op=18->ax g.vs i.a=g.ret):=by
 obtain⟨t,u,_⟩:=jC h;unfold aF at h;rw[bw (by omega)] at h
 by_cases o:aK g.vs.length (readsOf i++(if qH i.op then[i.d] else[]))=tj
 ·rw[cH o] at h;exact fz h (by decide)
 rw[bw o] at h;refine⟨λe=> ?_,λe=> ?_,λe=> ?_,λe=> ?_,λe=> ?_,λe=> ?_,λe=> ?_⟩
 ·rw[bw (by omega),bw (by omega),bw (by omega),bw (by omega)] at h
  unfold au at h;rw[bw (by omega),bw (by omega),bw (by omega),bw (by omega),bw (by omega),bw (by omega),bw (by omega),bw (by omega),bw (by omega),bw (by omega)] at h
  by_cases hf:i.f<0
  ·rw[cH hf] at h;exact fz h (by decide)
  rw[bw hf] at h;cases q:m.ss[i.f.toNat]? with
  |none=>rw[q] at h;exact fz h (by simp)
  |some s=>
   rw[q] at h;have j:=gH (by decide) h;rw[eq_of_beq j]
 ·rw[bw (by omega),bw (by omega),bw (by omega),bw (by omega)] at h
  unfold au at h;rw[bw (by omega),bw (by omega),bw (by omega),bw (by omega),bw (by omega),cH e] at h;exact gH (by decide) h
 ·rw[bw (by omega),bw (by omega),bw (by omega),bw (by omega)] at h
  unfold au at h;rw[bw (by omega),bw (by omega),bw (by omega),bw (by omega),bw (by omega),bw (by omega),bw (by omega),cH e] at h;have j:=gH (by decide) h;rw[ej] at j;exact⟨j.1,by rw[<-eq_of_beq j.2];exact j.1⟩
 ·rw[bw (by omega),bw (by omega),bw (by omega),bw (by omega)] at h
  unfold au at h;rw[bw (by omega),bw (by omega),bw (by omega),bw (by omega),bw (by omega),bw (by omega),bw (by omega),bw (by omega),cH (.inr e)] at h;have:=mX h;rw[cR e] at this;exact this
 ·rw[bw (by omega),bw (by omega),bw (by omega),bw (by omega)] at h
  unfold au at h;rw[bw (by omega),bw (by omega),bw (by omega),bw (by omega),bw (by omega),bw (by omega),bw (by omega),bw (by omega),bw (by omega),cH (.inl e)] at h;exact(mX h).1
 ·rw[bw (by omega),bw (by omega),bw (by omega),bw (by omega)] at h
  unfold au at h;rw[bw (by omega),bw (by omega),bw (by omega),bw (by omega),bw (by omega),bw (by omega),bw (by omega),bw (by omega),bw (by omega),cH (.inr e)] at h;have:=mX h;rw[cR e] at this;exact this
 ·rw[bw (by omega),bw (by omega),bw (by omega),cH e] at h
  exact eq_of_beq (gH (by decide) h)
theorem FO {P:bp (aw×aw)}{f p a:aw}{e:ml}(o:p≠0->gY (2*(P.length:aw)) (-p)/\gY (2*(P.length:aw)) (-(p+1)))(q:p≠0->(f,a)∈P):∀c∈l9 (λv=>aJ 0 P (f,v)) p e a,BI (2*(P.length:aw)) c:=by
 unfold l9
 by_cases h:p=0
 ·rw[cH h];simp
 ·rw[bw h]
  obtain⟨g,t⟩:=o h;obtain⟨j,x,u,y⟩:=bW (q h);intro c d;rw[dg,dg,cP,cP] at d;rcases d with(rfl|d)|rfl
  ·exact jT g j
  ·cases e with
   |true=>rw[cH rfl,cP] at d;rw[d];exact vR g
   |false=>rw[bw (by simp)] at d;exact fz d (by simp)
  ·exact Ct t j u
theorem Aa {P:bp (aw×aw)}{f:aw}{beh:aw->ml}{i:Ins}:∀{l:bp aw}{n:bj},(∀(j:bj)(a:aw),l[j]?=tf a->(i.f,((n+j:bj):aw))∈P->(f,a)∈P)->∀c∈mI P (λv=>aJ 0 P (f,v)) beh i n l,BI (2*(P.length:aw)) c
 |[],_,_,c,d=>fz d (by simp[mI])
 |a::r,n,h,c,d=>by
  unfold mI at d;rw[dg] at d;rcases d with d|d
  ·exact FO (λe=>⟨(bW (oC e)).2.1,(bW (oC e)).2.2.2⟩) (λe=>h 0 a rfl (oC e)) c d
  ·exact Aa (λj b hb g=>h (j+1) b (by simpa using hb) (by rw[show n+(j+1)=n+1+j by omega];exact g)) c d
theorem Dn {m:Mo}{f:bj}{g:Fn}{i:Ins}{beh:aw->ml}(hr:gZ m=0)(t:m.fs[f]?=tf g)(hi:i∈g.c.ins):∀c∈gJ m.ptrs (f:aw) beh i,BI (2*(m.ptrs.length:aw)) c:=by
 obtain⟨_,_,_,_,h5,_⟩:=gX hr;have tP:=(kE (h5 g (ci t))).2.2.2.2.2 i hi;obtain⟨_,_,q3,W,q5⟩:=jC tP;obtain⟨tW,ua,p9,tR,p8,tS,ub⟩:=zZ tP;have z:uy i.op=ti->isVar g.vs.length i.a=ti:=λh=>q3 i.a (by
  unfold readsOf
  by_cases e:i.op=15
  ·rw[e] at h;exact fz h (by decide)
  ·rw[bw e];simp[h])
 have vb:i.op=11->isVar g.vs.length i.b=ti:=λh=>q3 i.b (by unfold readsOf;rw[h];simp[uy,rT]);intro c o;unfold gJ at o;simp only at o
 by_cases tD:i.op=12
 ·rw[cH tD,cP] at o
  rw[o];exact vR (bW (eF t (W (by rw[tD];rfl)) (tW tD))).1
 rw[bw tD] at o
 by_cases tE:i.op=13
 ·rw[cH tE,cP] at o
  rw[o];exact vR (bW (eF t (z (by rw[tE];rfl)) (ua tE))).1
 rw[bw tE] at o
 by_cases A:i.op=9
 ·rw[cH A,dg,dg,cP,cP] at o
  obtain⟨u,J,v,a4⟩:=bW (eF t (z (by rw[A];rfl)) (p9 A).1);obtain⟨d1,d2,d3,d4⟩:=bW (eF t (W (by rw[A];rfl)) (p9 A).2);rcases o with(rfl|o)|rfl
  ·exact jT d2 u
  ·by_cases hb:i.a≠i.d/\beh i.a=ti
   ·rw[cH hb,cP] at o;rw[o];exact vR d2
   ·rw[bw hb] at o;exact fz o (by simp)
  ·exact Ct d4 u v
 rw[bw A] at o
 by_cases E:i.op=10
 ·rw[cH E] at o
  obtain⟨u,J,v,a4⟩:=bW (eF t (z (by rw[E];rfl)) (tR E).1);obtain⟨d1,d2,d3,d4⟩:=bW (eF t (W (by rw[E];rfl)) (tR E).2);rcases fW.1 o with rfl|o
  ·exact Ct d2 u v
  ·rw[cP] at o;rw[o];exact Ct d4 u v
 rw[bw E] at o
 by_cases e8:i.op=8
 ·rw[cH e8,cP] at o
  obtain⟨u,J,v,a4⟩:=bW (eF t (z (by rw[e8];rfl)) (p8 e8));rw[o];exact jT u v
 rw[bw e8] at o
 by_cases G:i.op=11
 ·rw[cH G,dg] at o
  obtain⟨u,J,v,a4⟩:=bW (eF t (z (by rw[G];rfl)) (tS G).1);obtain⟨b1,b2,b3,b4⟩:=bW (eF t (vb G) (tS G).2);rcases o with o|o
  ·rcases fW.1 o with rfl|o
   ·exact vR b1
   ·rw[cP] at o;rw[o];exact jT u v
  ·by_cases hb:beh i.b=ti
   ·rw[cH hb,cP] at o;rw[o];exact vR b2
   ·rw[bw hb] at o;exact fz o (by simp)
 rw[bw G] at o
 by_cases K:i.op=15
 ·rw[cH K,dg] at o
  obtain⟨c0,h,c1,c2,c3,c4,c5⟩:=BH (q5 K);have hf:((i.f.toNat:bj):aw)=i.f:=by omega
  rcases o with o|o
  ·refine Aa (λj a ha hm=> ?_) c o
   obtain⟨k,h',y,k2,q⟩:=oz hm;have R:i.f.toNat=k:=by omega
   subst R;rw[c1] at y;obtain rfl:=cy y;rw[cI] at q;rcases q with q|⟨_,q⟩
   ·omega
   ·have uc:=q3 a (by unfold readsOf;rw[cH K];simp[ci ha])
    refine eF t uc ?_;have:=zY c4 ha;rw[cI] at this;rw[this];exact q
  ·by_cases hd:0<aJ 0 m.ptrs ((f:aw),i.d)
   ·rw[cH hd] at o
    have tU:=oC (P:=m.ptrs) (x:=((f:aw),i.d)) (by omega);obtain⟨d1,d2,d3,d4⟩:=bW tU;have ud:isVar g.vs.length i.d=ti:=W (by rw[K];rfl);have tG:(i.f,(-1:aw))∈m.ptrs:=by
     obtain⟨k,g',y,k2,q⟩:=oz tU;have R:f=k:=by omega
     subst R;rw[t] at y;obtain rfl:=cy y;rcases q with q|⟨_,q⟩
     ·have:=(bJ.1 ud).1;omega
     ·rw[<-hf];exact EE c1 (by rw[<-c5];exact q)
    obtain⟨r1,r2,r3,r4⟩:=bW tG;simp only[fW,pP,or_false] at o;rcases o with rfl|rfl|rfl|rfl
    ·exact jT d2 r1
    ·exact jT d1 r2
    ·exact jT d4 r3
    ·exact jT d3 r4
   ·rw[bw hd] at o;exact fz o (by simp)
 rw[bw K] at o
 by_cases tM:i.op=18
 ·rw[cH tM] at o
  by_cases hz:aJ 0 m.ptrs ((f:aw),(-1:aw))=0
  ·rw[cH hz] at o;exact fz o (by simp)
  ·rw[bw hz] at o
   have tG:=oC hz;obtain⟨r1,r2,r3,r4⟩:=bW tG;obtain⟨k,g',y,k2,q⟩:=oz tG;have R:f=k:=by omega
   subst R;rw[t] at y;obtain rfl:=cy y;have ue:g.ret.1=ti:=by
    rcases q with⟨_,q⟩|⟨q,_⟩
    ·exact q
    ·have:=(bJ.1 q).1;omega
   obtain⟨u,J,v,a4⟩:=bW (eF t (z (by rw[tM];rfl)) (by rw[ub tM];exact ue));simp only[fW,pP,or_false] at o;rcases o with rfl|rfl|rfl
   ·exact jT r2 u
   ·exact jT r1 J
   ·exact jT r4 v
 rw[bw tM] at o;exact fz o (by simp)
def gB (P:bp (aw×aw))(f:aw)(beh:bj->aw->ml):bj->bp Ins->bp (bp aw×(aw×aw))
 |_,[]=>[]
 |k,i::r=>(gJ P f (beh k) i).map (λc=>(c,(f,(k:aw))))++gB P f beh (k+1) r
def d9 (f:aw):bj->bp (aw×aw)->bp (bp aw×(aw×aw))
 |_,[]=>[]
 |k,p::r=>(if p.1=f then[([-(2*(k:aw)+1),-(2*(k:aw)+2)],(f,(-1:aw)))] else[])++d9 f (k+1) r
def jU (P:bp (aw×aw))(beh:bj->bj->aw->ml):bj->bp Fn->bp (bp aw×(aw×aw))
 |_,[]=>[]
 |f,g::r=>d9 (f:aw) 0 P++gB P (f:aw) (beh f) 0 g.c.ins++jU P beh (f+1) r
def Mo.wants (m:Mo)(beh:bj->bj->aw->ml):bp (bp aw×(aw×aw)):=jU m.ptrs beh 0 m.fs
section
open Go.RowKit Go.Maps
theorem GN:laidOutB am=ti:=by kernel_rfl
theorem Gs:(121:fX)<am.types.size:=mw (by kernel_rfl)
theorem FP:am.keyTypeAt 2 121=ti:=by kernel_rfl
theorem sP:Keyed am 121:=Keyed.of_law (deep_law_laid GN (m:=2) (show 2+1<=10000 from Nat.le_of_ble_eq_true rfl) Gs FP (by rw[nh]))
theorem EF (w:World):(zeroValue 3).run am w= .ok (Z U 0) w:=by kernel_rfl
def bu (x:aw):Prop:= -9223372036854775808<=x/\x<=9223372036854775807
def Dp (f v:aw):Lit:= .string (keyBytes [.int .i64 f,.int .i64 v])
theorem lW {f v:aw}(hf:bu f)(e:bu v):keyOf am 121 (tv #[Z U f,Z U v])=tf (Dp f v):=by
 have g:=nw hf;have h:=nw e;have j:am.keyType 121=ti:=by kernel_rfl
 have d:am.cellsOf 121=2:=by kernel_rfl
 have o:am.cellsOf 3=1:=by kernel_rfl
 obtain⟨m,q⟩:∃m,am.types.size=m+1:=⟨am.types.size-1,by have:0<am.types.size:=mw (by kernel_rfl);omega⟩
 unfold keyOf;simp only[nh];rw[cH (by rw[j];simp[Value.formed,nh,d]),q];unfold Program.keyLits;simp only[nh,Value.cells];rw[cH ⟨by rw[d];rfl,by kernel_rfl⟩];simp[Program.keyLits,cX,o,g,h,Dp]
theorem EG {f v g u:aw}(hf:bu f)(e:bu v)(j:bu g)(o:bu u)(h:Dp f v=Dp g u):f=g/\v=u:=by
 have d:=lW hf e;rw[h] at d;have:=sP.inj d (lW j o);simpa using this
theorem sQ {v:cw}{z:DataW Unit×bp m5}(h:ra am 3 v=tf z):∃x,v= .int .i64 x/\z=(.lit (.int .i64 x),[]):=by
 unfold ra at h;rw[cX] at h;cases v<;>simp at h;obtain⟨⟨rfl,_⟩,d⟩:=h;exact⟨_,rfl,d.symm⟩
def ma (w:World)(B n:bj)(F:aw×aw->aw):Prop:=∃D:DataW Unit,w.ownsMap am 121 (ra am 3) B n D/\IsMap D/\
 ∀x:aw×aw,bu x.1->bu x.2->D.atKey (Dp x.1 x.2) (.lit (.int .i64 0))= .lit (.int .i64 (F x))
theorem ma.made (w:World):ma (w.alloc (.map #[] 0)) w.heap.size 0 (λ_=>0):=
 ⟨.map [],World.ownsMap_made _ _ _ _,isMap_empty,λx _ _=>by simp[DataW.atKey]⟩
theorem ma.ext {w w':World}{B n:bj}{F:aw×aw->aw}{M:bj->Prop}(h:ma w B n F)(d:Ext M w w')(e:¬M B):ma w' B n F:=by
 obtain⟨D,⟨f,g,j,o⟩,q⟩:=h;exact⟨D,⟨f,g,d.heap j e,o⟩,q⟩
theorem ma.look {w:World}{B n:bj}{F:aw×aw->aw}(h:ma w B n F){f v:aw}(hf:bu f)(e:bu v):
  (mx 118 (.map (tf B)) (.agg #[.int .i64 f,.int .i64 v]) tj).run am w= .ok (.int .i64 (F (f,v))) w:=by
 obtain⟨D,g,t,j⟩:=h;obtain⟨x,u,o,q⟩:=g.lookup sP underlying118 (EF w) (plainElem_int cX (nw (by omega))) (lW hf e);obtain⟨y,rfl,d⟩:=sQ q;rw[j (f,v) hf e] at d;simp only[pp,DataW.lit.injEq,Lit.int.injEq,true_and] at d;rw[o,<-d.1]
theorem ma.add {w:World}{B n:bj}{F:aw×aw->aw}(h:ma w B n F){f v z:aw}(hf:bu f)(d:bu v)(q:bu z)(t:n<du):
  ∃w',(Instr.mapUpdate 118 (.map (tf B)) (.agg #[.int .i64 f,.int .i64 v]) (.int .i64 z)).run am w= .ok () w'/\ma w' B (n+1) (λx=>if x=(f,v) then z else F x)/\Ext (·=B) w w':=by
 obtain⟨D,u,g,A⟩:=h;obtain⟨w',E,r1,r2⟩:=u.update sP underlying118 t (lW hf d) (plainElem_int cX (nw q));refine⟨w',E,⟨_,r1,g.put _ _,λy j o=> ?_⟩,Ext.of_grown r2 (λk G=> .inl (by simpa using G.symm))⟩
 by_cases e:y=(f,v)
 ·subst e
  rw[atKey_put_same g (by simp[WideAt.IsKeyLit,Dp])];simp
 ·rw[atKey_put_other (λh=>e (by have:=EG hf d j o h.symm;exact Prod.ext this.1.symm this.2.symm)),A y j o];simp[e]
theorem oZ:(am.info? 121).map (λi=>(i.zero,i.size,i.bytes))=tf (tf (tv #[Z U 0,Z U 0]),2,16):=by kernel_rfl
theorem vS:(am.info? 35).map (λi=>(i.zero,i.size,i.bytes))=tf (tf (tn th 0 0),1,24):=by kernel_rfl
structure nz where
 fA:cC fg
 fC:bj
 yA:cC fg
 yC:bj
 vals:bp cw
def oJ (x:aw×aw):bp cw:=[Z U x.1,Z U x.2]
def EZ (Bb MB:bj)(lv:cC fg×bj)(s:nz)(d e:bj)(at_:aw×aw):dl cw:=
 #[tr (tf ⟨Bb,0,th⟩),tn lv.1 d lv.2,.map (tf MB),tn s.yA e s.yC,Z U at_.1,Z U at_.2]
structure Wn (T Bb MB:bj)(lv:cC fg×bj)(P:bp (aw×aw))(N:aw)(F:aw×aw->aw)(C:bp (bp aw))(Y:bp (aw×aw))(at_:aw×aw)(B:bj)(tg:bj->bj)(s:nz)(w:World):Prop where
 row:w.heap[T]?=tf (tA (EZ Bb MB lv s P.length Y.length at_) 123 (0,0))
 bld:w.heap[Bb]?=tf (tA #[Z U N,tn s.fA C.length s.fC] 191 (0,0))
 map:ma w MB P.length F
 lrow:w.ownsRow B 121 2 (tn lv.1 P.length lv.2) P.length (P.flatMap oJ)
 frow:w.ownsRow B 35 1 (tn s.fA C.length s.fC) C.length s.vals
 yrow:w.ownsRow B 121 2 (tn s.yA Y.length s.yC) Y.length (Y.flatMap oJ)
 cls:s.vals.length=C.length/\∀(k:bj)(c:bp aw),C[k]?=tf c->∃ao cap,s.vals[k]?=tf (tn ao c.length cap)/\dX w ao c/\(c≠[]->∀a,ao=tf a->tg a.block=0)
 t1:tg T=1
 t2:tg Bb=2
 t3:tg MB=3
 t4:∀k,(cv lv.1 P.length lv.2).ownBlock=tf k->tg k=4
 t5:∀k,(cv s.fA C.length s.fC).ownBlock=tf k->tg k=5
 t6:∀k,(cv s.yA Y.length s.yC).ownBlock=tf k->tg k=6
 lo:∀k,tg k≠0->B<=k/\k<w.heap.size
 lP:P.length<=30000
 lC:C.length<=1000000
 lY:Y.length<=1000000
section
variable {T Bb MB:bj}{lv:cC fg×bj}{P:bp (aw×aw)}{N:aw}{F:aw×aw->aw}{C:bp (bp aw)}{Y:bp (aw×aw)}{at_:aw×aw}{B:bj}{tg:bj->bj}{s:nz}{w w':World}
theorem Wn.grow (h:Wn T Bb MB lv P N F C Y at_ B tg s w)(hb:aE w.heap.size w w'):Wn T Bb MB lv P N F C Y at_ B tg s w':=
 ⟨(hb.block T (ae h.row)).trans h.row,(hb.block Bb (ae h.bld)).trans h.bld,h.map.ext (Ext.of_below_size (M:=λ_=>lj) hb) (λh=>h),ownsRow_below h.lrow hb,ownsRow_below h.frow hb,ownsRow_below h.yrow hb,
  ⟨h.cls.1,λk c e=>by obtain⟨ao,cap,f,g,j⟩:=h.cls.2 k c e;exact⟨ao,cap,f,aH.grow g hb,j⟩⟩,h.t1,h.t2,h.t3,h.t4,h.t5,h.t6,λk d=>⟨(h.lo k d).1,cD (h.lo k d).2 hb.size⟩,h.lP,h.lC,h.lY⟩
end
def aV (T Bb MB:bj)(lv:cC fg×bj)(P:bp (aw×aw))(N:aw)(F:aw×aw->aw)(C:bp (bp aw))(Y:bp (aw×aw))(at_:aw×aw)(B:bj)(tg:bj->bj)(w w':World):Prop:=
 ∃d e,Wn T Bb MB lv P N F C Y at_ B d e w'/\Ext (λq=>tg q≠0) w w'/\(∀k,d k≠0->tg k≠0\/w.heap.size<=k)/\∀k,tg k≠0->d k=tg k
theorem Wn.same {T Bb MB:bj}{lv:cC fg×bj}{P:bp (aw×aw)}{N:aw}{F:aw×aw->aw}{C:bp (bp aw)}{Y:bp (aw×aw)}{at_:aw×aw}{B:bj}{tg:bj->bj}{s:nz}{w w':World}(h:Wn T Bb MB lv P N F C Y at_ B tg s w)(hb:aE w.heap.size w w'):aV T Bb MB lv P N F C Y at_ B tg w w':=
 ⟨tg,s,h.grow hb,Ext.of_below_size hb,λk d=> .inl d,λ_ _=>rfl⟩
theorem aV.below {T Bb MB:bj}{lv:cC fg×bj}{P:bp (aw×aw)}{N:aw}{F:aw×aw->aw}{C:bp (bp aw)}{Y:bp (aw×aw)}{at_:aw×aw}{B:bj}{tg:bj->bj}{w d w2:World}(hb:aE w.heap.size w d)(h:aV T Bb MB lv P N F C Y at_ B tg d w2):aV T Bb MB lv P N F C Y at_ B tg w w2:=by
 obtain⟨e,f,g,j,o,t⟩:=h;exact⟨e,f,g,(Ext.of_below_size hb).trans j (λq u=> .inl u),λk v=>(o k v).imp id (λh=>eN hb.size h),t⟩
end
theorem dS {w w':World}{ao:cC fg}{xs:bp aw}{M:bj->Prop}(h:dX w ao xs)(e:Ext M w w')(o:∀a,xs≠[]->ao=tf a->¬M a.block):dX w' ao xs:=by
 intro f;obtain⟨b,d,g,j,q⟩:=h f;exact⟨b,d,g,cD j e.size,λi x hi k u t=>(e.cell (a:=⟨b,d+i*1+k,th⟩) j (o ⟨b,d,th⟩ f g)).trans (q i x hi k u t)⟩
theorem sS {w:World}{base n c:bj}{ao:cC fg}{xs:bp aw}(h:aU w base (tn ao n c) xs)(t:n=xs.length):dX w ao xs:=by
 intro f;obtain⟨g,e,_,j,o⟩:=h.shape (kq.2 f);refine⟨g,0,e,j,λi z q k u d=> ?_⟩;cases k with
 |succ k=>simp at d
 |zero=>
  obtain rfl:eS .i64 z=u:=by simpa using d
  simpa using o i z q
section
variable {T Bb MB:bj}{lv:cC fg×bj}{P:bp (aw×aw)}{N:aw}{F:aw×aw->aw}{C:bp (bp aw)}{Y:bp (aw×aw)}{at_:aw×aw}{B:bj}{tg:bj->bj}{s:nz}{w w5 W8 w9:World}
theorem Dq {xs:bp aw}{ao a9:cC fg}{cp c9:bj}(h:Wn T Bb MB lv P N F C Y at_ B tg s w)(tP:aE w.heap.size w w5)(tR:aU w5 w.heap.size (tn ao xs.length cp) xs)(tD:aE w5.heap.size w5 W8)
  (tS:w9.ownsRow B 35 1 (tn a9 (C.length+1) c9) (C.length+1) (s.vals++[tn ao xs.length cp]))(ub:W8.grownBy w9 (cv s.fA C.length s.fC).ownBlock)
  (E:∀k,(cv a9 (C.length+1) c9).ownBlock=tf k->(cv s.fA C.length s.fC).ownBlock=tf k\/W8.heap.size<=k)(hl:C.length+1<=1000000):
  aV T Bb MB lv P N F (C++[xs]) Y at_ B tg w (w9.setCell ⟨Bb,1,th⟩ (tn a9 (C.length+1) c9)):=by
 obtain⟨WF,tE⟩:=zE (w9.setCell ⟨Bb,1,th⟩ (tn a9 (C.length+1) c9));rw[tE];have tG:aE w.heap.size w W8:=tP.trans (tD.mono tP.size);have tU:Ext (λq=>(cv s.fA C.length s.fC).ownBlock=tf q) W8 w9:=Ext.of_grown ub (λq j=> .inl j);have tM:Ext (·=Bb) w9 WF:=by rw[<-tE];exact Ext.set1 w9 Bb 1 _
 have tW:Ext (λq=>q=Bb\/(cv s.fA C.length s.fC).ownBlock=tf q) W8 WF:=(tU.mono (λq h=> .inr h)).trans tM (λq h=> .inl (.inl h));have z:Ext (λq=>q=Bb\/(cv s.fA C.length s.fC).ownBlock=tf q) w WF:=(Ext.of_below_size tG).trans tW (λq h=> .inl h);have v:=h.t5;have G:∀k,tg k≠2->tg k≠5->¬(k=Bb\/(cv s.fA C.length s.fC).ownBlock=tf k):=λk u R x=>by
  rcases x with rfl|x
  ·exact u h.t2
  ·exact R (v k x)
 have J:∀k,tg k≠0->k<w.heap.size:=λk d=>(h.lo k d).2;have ux:w.heap.size<=W8.heap.size:=tG.size;have uc:=ae h.bld;have ud:WF.heap[Bb]?=tf (tA #[Z U N,tn a9 (C.length+1) c9] 191 (0,0)):=by
  rw[<-tE];exact bk w9 Bb 1 _ _ _ (tU.heap ((tG.block Bb uc).trans h.bld) (λe=>by have:=v _ e;have:=h.t2;omega))
 have W:(C++[xs]).length=C.length+1:=by simp
 have A:∀k,(cv a9 (C.length+1) c9).ownBlock=tf k->tg k≠0->tg k=5:=λk d h0=>by
  rcases E k d with u|u
  ·exact v k u
  ·have:=J k h0;omega
 refine⟨λk=>if (cv a9 (C.length+1) c9).ownBlock=tf k then 5 else tg k,{s with fA:=a9,fC:=c9,vals:=s.vals++[tn ao xs.length cp]},⟨?_, ?_, ?_, ?_, ?_, ?_,⟨?_, ?_⟩, ?_, ?_, ?_, ?_, ?_, ?_, ?_,h.lP,by rw[W];exact hl,h.lY⟩, ?_, ?_, ?_⟩
 ·exact z.heap h.row (G T (by rw[h.t1];decide) (by rw[h.t1];decide))
 ·rw[W];exact ud
 ·exact h.map.ext z (G MB (by rw[h.t3];decide) (by rw[h.t3];decide))
 ·exact ah h.lrow z (λk d=>G k (by rw[h.t4 k d];decide) (by rw[h.t4 k d];decide))
 ·rw[W];exact ah tS tM (λk d e=>by
   subst e;rcases E _ d with u|u
   ·have:=v _ u;have:=h.t2;omega
   ·omega)
 ·exact ah h.yrow z (λk d=>G k (by rw[h.t6 k d];decide) (by rw[h.t6 k d];decide))
 ·simp[h.cls.1]
 ·intro k c y
  rw[sX] at y
  by_cases d:k<C.length
  ·rw[cH d] at y
   obtain⟨ue,up,u,R,x⟩:=h.cls.2 k c y;refine⟨ue,up,by rw[mz (by have:=(bo.1 u).1;omega)];exact u,dS R z (λa t e=>G _ (by rw[x t a e];decide) (by rw[x t a e];decide)),λt a e=> ?_⟩;rw[bw (λf=> ?_)]
   ·exact x t a e
   ·obtain⟨b,vc,K,e2,_⟩:=R t
    rw[e] at K;obtain rfl:=cy K;rcases E _ f with o|o
    ·have:=v _ o;have:=x t _ e;omega
    ·simp only at e2 o;omega
  ·rw[bw d] at y
   obtain⟨vd,rfl⟩:k-C.length=0/\xs=c:=by
    cases j:k-C.length with
    |zero=>rw[j] at y;exact⟨rfl,by simpa using y⟩
    |succ q=>rw[j] at y;simp at y
   have ur:k=s.vals.length:=by rw[h.cls.1];omega
   have uv:=sS tR rfl;have ua:∀a,xs≠[]->ao=tf a->w.heap.size<=a.block/\a.block<w5.heap.size:=λa t e=>by
    obtain⟨g,K,e2,e3,_⟩:=tR.shape (kq.2 t);rw[e] at K;obtain rfl:=cy K;exact⟨e2,e3⟩
   have vf:=tD.size;refine⟨ao,cp,by rw[ur];simp,dS (aH.grow uv tD) tW (λa t e j=> ?_),λt a e=> ?_⟩
   ·have:=ua a t e
    rcases j with j|j
    ·omega
    ·have:=J _ (by rw[v _ j];decide);omega
   ·have u:=ua a t e
    rw[bw (λf=> ?_)]
    ·cases hz:tg a.block with
     |zero=>rfl
     |succ q=>have:=J a.block (by omega);omega
    ·rcases E _ f with o|o
     ·have:=J _ (by rw[v _ o];decide);omega
     ·omega
 ·show(if _ then 5 else tg T)=1
  rw[bw (λf=>by have:=A T f (by rw[h.t1];decide);have:=h.t1;omega)];exact h.t1
 ·show(if _ then 5 else tg Bb)=2
  rw[bw (λf=>by have:=A Bb f (by rw[h.t2];decide);have:=h.t2;omega)];exact h.t2
 ·show(if _ then 5 else tg MB)=3
  rw[bw (λf=>by have:=A MB f (by rw[h.t3];decide);have:=h.t3;omega)];exact h.t3
 ·intro k d
  have o:=h.t4 k d
  show(if _ then 5 else tg k)=4
  rw[bw (λf=>by have:=A k f (by omega);omega)];exact o
 ·intro k d
  rw[W] at d
  show(if _ then 5 else tg k)=5
  rw[cH d]
 ·intro k d
  have o:=h.t6 k d
  show(if _ then 5 else tg k)=6
  rw[bw (λf=>by have:=A k f (by omega);omega)];exact o
 ·intro k d
  by_cases f:(cv a9 (C.length+1) c9).ownBlock=tf k
  ·have:=ai tS f
   exact⟨this.1,cD this.2 tM.size⟩
  ·simp only[bw f] at d
   exact⟨(h.lo k d).1,cD (J k d) z.size⟩
 ·refine z.mono (λq j=> ?_)
  rcases j with rfl|j
  ·rw[h.t2];decide
  ·rw[v q j];decide
 ·intro k d
  by_cases f:(cv a9 (C.length+1) c9).ownBlock=tf k
  ·rcases E k f with o|o
   ·exact .inl (by rw[v _ o];decide)
   ·exact .inr (by omega)
  ·simp only[bw f] at d
   exact .inl d
 ·intro k d
  by_cases f:(cv a9 (C.length+1) c9).ownBlock=tf k
  ·simp only[cH f];exact(A k f d).symm
  ·simp only[bw f]
theorem Gt {f v:aw}{a9:cC fg}{c9:bj}(h:Wn T Bb MB lv P N F C Y (f,v) B tg s w)(R:aE w.heap.size w W8)
  (tE:w9.ownsRow B 121 2 (tn a9 (Y.length+1) c9) (Y.length+1) (Y.flatMap oJ++[Z U f,Z U v]))(tP:W8.grownBy w9 (cv s.yA Y.length s.yC).ownBlock)
  (G:∀k,(cv a9 (Y.length+1) c9).ownBlock=tf k->(cv s.yA Y.length s.yC).ownBlock=tf k\/W8.heap.size<=k)(hl:Y.length+1<=1000000):
  aV T Bb MB lv P N F C (Y++[(f,v)]) (f,v) B tg w (w9.setCell ⟨T,3,th⟩ (tn a9 (Y.length+1) c9)):=by
 obtain⟨WF,W⟩:=zE (w9.setCell ⟨T,3,th⟩ (tn a9 (Y.length+1) c9));rw[W];have tG:Ext (λq=>(cv s.yA Y.length s.yC).ownBlock=tf q) W8 w9:=Ext.of_grown tP (λq A=> .inl A);have tD:Ext (·=T) w9 WF:=by rw[<-W];exact Ext.set1 w9 T 3 _
 have tR:Ext (λq=>q=T\/(cv s.yA Y.length s.yC).ownBlock=tf q) W8 WF:=(tG.mono (λq h=> .inr h)).trans tD (λq h=> .inl (.inl h));have u:Ext (λq=>q=T\/(cv s.yA Y.length s.yC).ownBlock=tf q) w WF:=(Ext.of_below_size R).trans tR (λq h=> .inl h);have x:=h.t6;have E:∀k,tg k≠1->tg k≠6->¬(k=T\/(cv s.yA Y.length s.yC).ownBlock=tf k):=λk o J t=>by
  rcases t with rfl|t
  ·exact o h.t1
  ·exact J (x k t)
 have tM:∀k,tg k≠0->k<w.heap.size:=λk d=>(h.lo k d).2;have ua:w.heap.size<=W8.heap.size:=R.size;have hT:=ae h.row;have tS:WF.heap[T]?=tf (tA (EZ Bb MB lv {s with yA:=a9,yC:=c9} P.length (Y.length+1) (f,v)) 123 (0,0)):=by
  rw[<-W];exact bk w9 T 3 _ _ _ (tG.heap ((R.block T hT).trans h.row) (λe=>by have:=x _ e;have:=h.t1;omega))
 have K:(Y++[(f,v)]).length=Y.length+1:=by simp
 have y:∀k,(cv a9 (Y.length+1) c9).ownBlock=tf k->tg k≠0->tg k=6:=λk d h0=>by
  rcases G k d with o|o
  ·exact x k o
  ·have:=tM k h0;omega
 refine⟨λk=>if (cv a9 (Y.length+1) c9).ownBlock=tf k then 6 else tg k,{s with yA:=a9,yC:=c9},⟨?_, ?_, ?_, ?_, ?_, ?_,⟨h.cls.1, ?_⟩, ?_, ?_, ?_, ?_, ?_, ?_, ?_,h.lP,h.lC,by rw[K];exact hl⟩, ?_, ?_, ?_⟩
 ·rw[K];exact tS
 ·exact u.heap h.bld (E Bb (by rw[h.t2];decide) (by rw[h.t2];decide))
 ·exact h.map.ext u (E MB (by rw[h.t3];decide) (by rw[h.t3];decide))
 ·exact ah h.lrow u (λk d=>E k (by rw[h.t4 k d];decide) (by rw[h.t4 k d];decide))
 ·exact ah h.frow u (λk d=>E k (by rw[h.t5 k d];decide) (by rw[h.t5 k d];decide))
 ·rw[K,fS];exact ah tE tD (λk d e=>by
   subst e;rcases G _ d with o|o
   ·have:=x _ o;have:=h.t1;omega
   ·omega)
 ·intro k c hc
  obtain⟨tU,tW,o,J,t⟩:=h.cls.2 k c hc;refine⟨tU,tW,o,dS J u (λa z e=>E _ (by rw[t z a e];decide) (by rw[t z a e];decide)),λz a e=> ?_⟩;rw[bw (λg=> ?_)]
  ·exact t z a e
  ·obtain⟨b,ub,e1,e2,_⟩:=J z
   rw[e] at e1;obtain rfl:=cy e1;rcases G _ g with j|j
   ·have:=x _ j;have:=t z _ e;omega
   ·simp only at e2 j;omega
 ·show(if _ then 6 else tg T)=1
  rw[bw (λg=>by have:=y T g (by rw[h.t1];decide);have:=h.t1;omega)];exact h.t1
 ·show(if _ then 6 else tg Bb)=2
  rw[bw (λg=>by have:=y Bb g (by rw[h.t2];decide);have:=h.t2;omega)];exact h.t2
 ·show(if _ then 6 else tg MB)=3
  rw[bw (λg=>by have:=y MB g (by rw[h.t3];decide);have:=h.t3;omega)];exact h.t3
 ·intro k d
  have j:=h.t4 k d
  show(if _ then 6 else tg k)=4
  rw[bw (λg=>by have:=y k g (by omega);omega)];exact j
 ·intro k d
  have j:=h.t5 k d
  show(if _ then 6 else tg k)=5
  rw[bw (λg=>by have:=y k g (by omega);omega)];exact j
 ·intro k d
  rw[K] at d
  show(if _ then 6 else tg k)=6
  rw[cH d]
 ·intro k d
  by_cases g:(cv a9 (Y.length+1) c9).ownBlock=tf k
  ·have:=ai tE g
   exact⟨this.1,cD this.2 tD.size⟩
  ·simp only[bw g] at d
   exact⟨(h.lo k d).1,cD (tM k d) u.size⟩
 ·refine u.mono (λq A=> ?_)
  rcases A with rfl|A
  ·rw[h.t1];decide
  ·rw[x q A];decide
 ·intro k d
  by_cases g:(cv a9 (Y.length+1) c9).ownBlock=tf k
  ·rcases G k g with j|j
   ·exact .inl (by rw[x _ j];decide)
   ·exact .inr (by omega)
  ·simp only[bw g] at d
   exact .inl d
 ·intro k d
  by_cases g:(cv a9 (Y.length+1) c9).ownBlock=tf k
  ·simp only[cH g];exact(y k g d).symm
  ·simp only[bw g]
end
def bH (n x:aw):ml:= !(x==0)&&decide (x<=n)&&decide (-n<=x)
theorem FQ {n x:aw}(h:gY n x):bH n x=ti:=by
 obtain⟨d,e,f⟩:=h;unfold bH;rw[cR e,cR f,eR d];rfl
theorem uP (n x:aw)(o:0<=n/\n<=9000000)(w:World):zS 118 #[Z U n,Z U x] w (tt (bH n x)):=by
 by_cases h0:x=0
 ·subst h0
  go_enter rl,pS;go_wp2;go_ret;exact⟨rfl,rfl⟩
 have f:(x==0)=tj:=eR h0;have q:(x != 0)=ti:=by rw[bne,f];rfl
 have g:bH n x=(decide (x<=n)&&decide (-n<=x)):=by unfold bH;rw[f];rfl
 rw[g];clear g
 by_cases h:x<=n
 ·have d:decide (x<=n)=ti:=cR h
  by_cases j: -n<=x
  ·have e:decide (-n<=x)=ti:=cR j
   rw[d,e];go_enter rl,pS;go_wp2;go_ret;exact⟨rfl,rfl⟩
  ·have e:decide (-n<=x)=tj:=cm j
   rw[d,e];go_enter rl,pS;go_wp2;go_ret;exact⟨rfl,rfl⟩
 ·have d:decide (x<=n)=tj:=cm h
  rw[d];go_enter rl,pS;go_wp2;go_ret;exact⟨rfl,rfl⟩
theorem xQ (n x:aw)(B:bj)(d:0<=n/\n<=9000000)(w:World)(g:w.cell? ⟨B,0,th⟩=tf (Z U n)):zP 117 #[Z U x,tr (tf ⟨B,0,th⟩)] w (tt (!bH n x)):=by
 have f:=zH (uP n x d w);go_enter func117,ntmps117
 go_wp2_with (go_at_call 118;refine f.out.mono ?_;rintro e w ⟨rfl,rfl⟩)
 go_ret;exact⟨rfl,aq _ _⟩
theorem Ab (w:World)(ao:cC fg)(xs:bp aw)(c B:bj)(p:aw->ml)(K:xs.length<=du)(h:ak w ao xs)
  (hf:∀W,aE w.heap.size w W->∀z∈xs,zP 117 #[Z U z,tr (tf ⟨B,0,th⟩)] W (tt (p z))):
  zP 152 #[tn ao xs.length c,.func (.func 117) #[] #[tr (tf ⟨B,0,th⟩)]] w (Z U (fV p xs)):=by
 have H:=zH h;have R:=zH hf;unfold du at K;clear h hf;go_enter pL,pc
 go_wp2_with fail
 go_loopw [8] (λk wr=>∃j:bj,j<=xs.length/\k= Z U (j:aw)/\(∀z∈xs.take j,p z=tj)/\aE w.heap.size w wr) (λk _=>xs.length-(dp k).toNat)
 case atStart=>exact⟨0,cM _,rfl,by simp,aq _ _⟩
 case round=>
  obtain⟨j,hj,rfl,g,hb⟩:=hrel
  by_cases t:j<xs.length
  ·obtain⟨y,q⟩:∃y,xs[j]?=tf y:=⟨_,ap t⟩
   obtain⟨g1,tD,rfl,tG,A⟩:=H.out.below hb (by intro e;rw[e] at t;simp at t);have d1:wr.cell? ⟨g1,tD+j,th⟩=tf (Z U y):=A j y q;have tM:(j:aw)<(xs.length:aw):=by omega
   have u:=zH (R.out wr hb y (ci q));obtain⟨d,v⟩:=zE (p y);rw[v] at u;have f:=zH hb;have E:=zH g;have G:=zH q;have J:=zH v;clear hb g q v A;cases d with
   |true=>
    go_wp2_with (go_at_call 117;refine u.out.mono ?_;rintro e w2 ⟨rfl,o⟩;have x:=zH o;clear o)
    go_ret;exact⟨by rw[iI E.out G.out J.out];rfl,f.out.trans (x.out.mono f.out.size)⟩
   |false=>
    go_wp2_with (go_at_call 117;refine u.out.mono ?_;rintro e w2 ⟨rfl,o⟩;have x:=zH o;clear o)
    go_roundw
    case rel=>exact⟨j+1,by omega,by go_num,dE E.out G.out J.out,f.out.trans (x.out.mono f.out.size)⟩
    case measure=>simp[dp];omega
  ·have tE:j=xs.length:=by omega
   subst tE;rw[cL] at g;have HM:=zH (fH g);have f:=zH hb;clear g hb;go_wp2;go_ret;exact⟨by rw[HM.out];rfl,f.out⟩
theorem FR (xs:bp aw)(p:aw->ml):(!(xs.any λx=> !p x))=xs.all p:=by
 induction xs with
 |nil=>rfl
 |cons x r ih=>simp[Bool.not_or,ih]
theorem oD (n:aw)(g:0<=n/\n<=9000000)(B:bj)(ao:cC fg)(xs:bp aw)(c:bj)(w:World)(j:xs.length<=du)(h:ak w ao xs)(d:w.cell? ⟨B,0,th⟩=tf (Z U n))(o:B<w.heap.size):
  zP 116 #[tn ao xs.length c,.func (.func 117) #[] #[tr (tf ⟨B,0,th⟩)]] w (tt (xs.any λx=> !bH n x)):=by
 have q:=zH (Ab w ao xs c B (λx=> !bH n x) j h (λW t z _=>xQ n z B g W (by rw[t.cell (p:=⟨B,0,th⟩) o];exact d)));clear h d;have u:=zH (nO (p:=λx=> !bH n x) (xs:=xs));go_enter func116,ntmps116
 go_wp2_with (go_at_call 152;refine q.out.mono ?_;rintro e w2 ⟨rfl,f⟩;have v:=zH f;clear f)
 go_ret;exact⟨by rw[<-u.out];rfl,v.out⟩
theorem vT (n:aw)(q:0<=n/\n<=9000000)(ao:cC fg)(xs:bp aw)(c:bj)(w:World)(t:xs.length<=du)(h:ak w ao xs):
  zP 67 #[Z U n,tn ao xs.length c] w (tt (xs.all (bH n))):=by
 obtain⟨B,u⟩:=zE w.heap.size;obtain⟨W1,d⟩:=zE (w.alloc (tA #[Z U n] 3));have f:=gy d;have g:W1.heap[B]?=tf (tA #[Z U n] 3 (0,0)):=by rw[<-d,<-u];exact alloc_at _ _
 have v:=zH (oD n q B ao xs c W1 t (h.below f) (rowAt g 0 rfl).1 (ae g));have x:=zH d;have j:=zH f;have y:=zH (FR xs (bH n));clear h d f g;go_enter func67,ntmps67
 go_wp2_with (go_at_call 116;rw[x.out];refine v.out.mono ?_;rintro e w2 ⟨rfl,o⟩;have z:=zH o;clear o)
 go_ret;exact⟨by rw[<-y.out];rfl,j.out.trans (z.out.mono j.out.size)⟩
theorem oF (w:World)(ao:cC fg)(xs:bp aw)(cap:bj)(h:ak w ao xs)(K:xs.length<=80000):
  fj am 111 #[tn ao xs.length cap] w λe w'=>∃j o,e= tB (tn j xs.length o)/\aU w' w.heap.size (tn j xs.length o) xs/\aE w.heap.size w w':=by
 have R:∀(w:World)(a:cC fg)(n c d f:bj),(binOp .eql 35 (tn a n c) (tn th d f)).run am w= .ok (tt a.isNone) w:=λw a n c d f=>te w _ _ a n c d f gv;cases ao with
 |none=>
  obtain rfl:=h.nil_of_none;clear h;go_enter func111,ntmps111;go_wp2;go_ret;exact⟨th,0,rfl,aU.nil _ _,aq _ _⟩
 |some t=>
  have u:cg (aU (w.alloc (tA #[] 3)) w.heap.size (tn (tf ⟨w.heap.size,0,th⟩) 0 0) []):=gK _ _ _ _ (cd _);have v:cg (ak (w.alloc (tA #[] 3)) (tf t) xs):=h.below ((aq _ _).alloc (cd _) _);clear h;go_enter func111,ntmps111
  go_wp2_with (at_builtin;refine aL rfl _ _ rfl w.heap.size _ [] rfl u.out _ xs _ rfl v.out (by simp;omega) (by rw[World.size_alloc];omega) ?_;intro W w7 g q;have x:=zH g;have y:=zH q;obtain⟨z,A,E⟩:=g.isSlice;subst E;clear g q)
  go_ret;refine⟨z,A,by simp,by have:=x.out;simpa using this, ?_⟩;exact((aq _ _).alloc (cd _) _).grown y.out (by rw[World.size_alloc];omega) (λk G=>by have J:tf w.heap.size=tf k:=G;have:=cy J;omega)
section
variable {T Bb MB:bj}{lv:cC fg×bj}{P:bp (aw×aw)}{N:aw}{F:aw×aw->aw}{C:bp (bp aw)}{Y:bp (aw×aw)}{at_:aw×aw}{B:bj}{tg:bj->bj}{s:nz}
theorem xR (w:World)(h:Wn T Bb MB lv P N F C Y at_ B tg s w)(hN:0<=N/\N<=9000000)(ao:cC fg)(xs:bp aw)(cap:bj)(A:ak w ao xs)(tR:xs.all (bH N)=ti)(vc:xs.length<=80000)(hl:C.length+1<=1000000):
  fj am 101 #[tr (tf ⟨Bb,0,th⟩),tn ao xs.length cap] w λe w'=>e= tB (.tuple #[])/\aV T Bb MB lv P N F (C++[xs]) Y at_ B tg w w':=by
 have E:=h.bld;have vd:=ae E;have vf:B<=w.heap.size:=by have:=(h.lo T (by rw[h.t1];decide));omega
 have c0:=(rowAt E 0 rfl).1;have vh:cg (zP 67 #[Z U N,tn ao xs.length cap] w (tt ti)):=by
  have:=vT N hN ao xs cap w (by unfold du;omega) A;rw[tR] at this;exact this
 have H:=zH h;have HX:=zH A;obtain⟨i0,vm,vp,vq,vr⟩:=m6 vS;clear h A tR E;go_enter func101,ntmps101
 go_upto_region 1 with(go_at_call 67;refine vh.out.mono ?_;rintro e w2 ⟨rfl,tS⟩;have g:=zH tS;clear tS)
 clear c0;have u:w2.heap[Bb]?=tf (tA #[Z U N,tn s.fA C.length s.fC] 191 (0,0)):=(g.out.block Bb vd).trans H.out.bld;have vt:=ae u;have vu:=zH u;obtain⟨j,v⟩:=zE ((λw'=>w'.heap[Bb]?=tf (tA #[Z U N,tn s.fA C.length s.fC] 191 (0,0))):World->Prop);have wl:j w2.drew:=by rw[<-v];exact u
 have tU:∀W,W.heap[Bb]?=tf (tA #[Z U N,tn s.fA C.length s.fC] 191 (0,0))->j W:=λW h=>by rw[<-v];exact h
 have tW:∀W,j W->W.cell? ⟨Bb,1,th⟩=tf (tn s.fA C.length s.fC)/\Bb<W.heap.size:=λW h=>by rw[<-v] at h;exact⟨(rowAt h 1 rfl).1,ae h⟩
 have J:=zH tU;have f:=zH tW;have vx:=zH (oF w2.drew ao xs cap ((HX.out.below g.out).below (aq _ _).drew) vc);clear v tU tW u;refine aj 13 j (by kernel_rfl) ?_;refine zT 0 rfl f.out ?_;(try go_simp);refine zT 1 rfl f.out ?_;(try go_simp);refine zT 2 rfl f.out ?_;(try go_simp);refine zT 3 rfl f.out ?_;(try go_simp);refine zT 4 rfl f.out ?_;(try go_simp);refine zT 5 rfl f.out ?_;(try go_simp);refine zT 6 rfl f.out ?_;(try go_simp);refine zO 7 rfl λK d=> ?_;go_simp;go_at_call 111;refine vx.out.mono ?_;rintro e w5 ⟨R,tD,rfl,ua,ub⟩;have o:aE w2.heap.size w2 w5:=(aq _ _).drew.trans ub;have x:=(o.block Bb vt).trans vu.out;refine d _ _ (J.out _ x) ?_;clear d;(try go_simp);refine zO 8 rfl λK d=> ?_;go_simp;obtain⟨G,hG⟩:=zE w5.heap.size;obtain⟨W8,y⟩:=zE (w5.alloc (tA #[tn R xs.length tD] 35));(try rw[hG]);(try rw[y]);have z:=gy y;have uc:W8.heap[G]?=tf (tA #[tn R xs.length tD] 35 (0,0)):=by rw[<-y,<-hG];exact alloc_at _ _
 have tE:=(z.block Bb (ae x)).trans x;have tG:aE w.heap.size w W8:=g.out.trans ((o.trans (z.mono o.size)).mono g.out.size);refine d _ _ (J.out _ tE) ?_;clear d;(try go_simp);refine zO 9 rfl λK d=> ?_;have ud:=H.out.grow tG;have vy:B<=W8.heap.size:=eN vf tG.size;have ws:s.vals.length=C.length*1:=by have:=H.out.cls.1;omega
 refine aG (.tmp 20) (.tmp 23) 46 rfl B 35 i0 _ 1 24 underlying46 vm vp vq vr rfl (by decide) (tn s.fA C.length s.fC) C.length s.vals rfl ud.frow (tf ⟨G,0,th⟩) 1 1 [tn R xs.length tD] rfl rfl (λh=>by cases h) (λad we jj uu hu=>by
  obtain rfl:(⟨G,0,th⟩:fg)=ad:=by simpa using we
  rw[cU,cI,bt _ _ _ _ _ _ uc];simpa using hu) (by simp[cn]) (by unfold du;omega) (by omega) vy ?_
 intro v9 w9 tM tP ue;obtain⟨wg,c9,wj⟩:=aC tM;subst wj;have up:Ext (λq=>(cv s.fA C.length s.fC).ownBlock=tf q) W8 w9:=Ext.of_grown tP (λq hq=> .inl hq);have t:=up.heap tE (λe=>by have:=H.out.t5 _ e;have:=H.out.t2;omega);have ur:j w9:=J.out _ t;have xf:=(rowAt t 1 rfl).2;have xj:=(rowAt t 1 rfl).1;have xl:=ae t;refine d _ _ ur ?_;clear d;(try go_simp);refine zT 10 rfl f.out ?_;(try go_simp);refine zT 11 rfl f.out ?_;(try go_simp);refine zT 12 rfl f.out ?_;(try go_simp);refine zK rfl λK d=> ?_;go_simp;refine d _ _ ?_;clear d;refine⟨by kernel_rfl, ?_⟩;have uv:aE w.heap.size w w5:=g.out.trans (o.mono g.out.size);have ux:aV T Bb MB lv P N F (C++[xs]) Y at_ B tg w (w9.setCell ⟨Bb,1,th⟩ (tn wg (C.length+1) c9)):=Dq H.out uv (ua.mono (by have:=g.out.size;exact this)) z tM tP ue hl;have wk:=zH ux;clear ux tM tP ue up t ur ud tE x uc y z o ua ub uv tG hG;go_wp2
 go_end0
 exact⟨rfl,wk.out⟩
end
section
variable {T Bb MB:bj}{lv:cC fg×bj}{P:bp (aw×aw)}{N:aw}{F:aw×aw->aw}{C:bp (bp aw)}{Y:bp (aw×aw)}{at_:aw×aw}{B:bj}{tg:bj->bj}{s:nz}
theorem iP (w:World)(h:Wn T Bb MB lv P N F C Y at_ B tg s w)(hN:0<=N/\N<=9000000)(ao:cC fg)(xs:bp aw)(cap:bj)(hx:ak w ao xs)(tE:xs.all (bH N)=ti)(ux:xs.length<=80000)(hl:C.length+1<=1000000)(vc:Y.length+1<=1000000):
  fj am 56 #[tr (tf ⟨T,0,th⟩),tn ao xs.length cap] w λe w'=>e= tB (.tuple #[])/\aV T Bb MB lv P N F (C++[xs]) (Y++[at_]) at_ B tg w w':=by
 obtain⟨f,g⟩:=at_;have A:=h.row;have wl:=ae A;have tG:B<=w.heap.size:=by have:=(h.lo T (by rw[h.t1];decide));omega
 have c0:=(rowAt A 0 rfl).1;have vd:=zH (xR w h hN ao xs cap hx tE ux hl);obtain⟨i0,vf,vh,vm,vp⟩:=m6 oZ;clear h hx tE A;go_enter func56,ntmps56
 go_upto_region 1 with(go_at_call 101;refine vd.out.mono ?_;rintro e w2 ⟨rfl,ws,j,tM,tP,tR,tS⟩;have H:=zH tM;have E:=zH tP;have tU:=zH tR;have vq:=zH tS;clear tM tP tR tS)
 clear c0;have x:=H.out.row;have vr:=ae x;have vt:=zH x;obtain⟨t,y⟩:=zE ((λw'=>w'.heap[T]?=tf (tA (EZ Bb MB lv j P.length Y.length (f,g)) 123 (0,0))):World->Prop);have xf:t w2.drew:=by rw[<-y];exact x
 have tW:∀W,W.heap[T]?=tf (tA (EZ Bb MB lv j P.length Y.length (f,g)) 123 (0,0))->t W:=λW h=>by rw[<-y];exact h
 have ua:∀W,t W->W.cell? ⟨T,3,th⟩=tf (tn j.yA Y.length j.yC)/\W.cell? ⟨T,4,th⟩=tf (Z U f)/\W.cell? ⟨T,5,th⟩=tf (Z U g)/\T<W.heap.size:=λW h=>by rw[<-y] at h;exact⟨(rowAt h 3 rfl).1,(rowAt h 4 rfl).1,(rowAt h 5 rfl).1,ae h⟩
 have ub:=zH tW;have d:=zH ua;have vu:B<=w2.heap.size:=eN tG E.out.size;clear y tW ua x tG;refine aj 13 t (by kernel_rfl) ?_;refine zT 0 rfl d.out ?_;(try go_simp);refine zT 1 rfl d.out ?_;(try go_simp);refine zT 2 rfl d.out ?_;(try go_simp);refine zT 3 rfl d.out ?_;(try go_simp);refine zT 4 rfl d.out ?_;(try go_simp);refine zT 5 rfl d.out ?_;(try go_simp);refine zT 6 rfl d.out ?_;(try go_simp);refine zT 7 rfl d.out ?_;(try go_simp);refine zT 8 rfl d.out ?_;(try go_simp);refine zO 9 rfl λK' o=> ?_;go_simp;obtain⟨G,J⟩:=zE w2.heap.size;obtain⟨W8,z⟩:=zE ((w2.alloc (tA #[Z U f,Z U g] 121)).drew);(try rw[J]);(try rw[z]);have u:aE w2.heap.size w2 W8:=by rw[<-z];exact((aq _ _).alloc (cd _) _).drew
 have uc:W8.heap[G]?=tf (tA #[Z U f,Z U g] 121 (0,0)):=by rw[<-z,<-J];exact alloc_at _ _
 have K:=(u.block T vr).trans vt.out;refine o _ _ (ub.out _ K) ?_;clear o;(try go_simp);refine zO 10 rfl λK' o=> ?_;have ud:=H.out.grow u;have vx:B<=W8.heap.size:=eN vu u.size;refine aG (.tmp 14) (.tmp 19) 119 rfl B 121 i0 _ 2 16 oX vf vh vm vp rfl (by decide) (tn j.yA Y.length j.yC) Y.length (Y.flatMap oJ) rfl ud.yrow (tf ⟨G,0,th⟩) 1 1 [Z U f,Z U g] rfl rfl (λh=>by cases h) (λad vy jj uu hu=>by
  obtain rfl:(⟨G,0,th⟩:fg)=ad:=by simpa using vy
  rw[cU,cI,bt _ _ _ _ _ _ uc];simpa using hu) (by simp[cn]) (by unfold du;omega) (by omega) vx ?_
 intro v9 w9 R tD ue;obtain⟨we,c9,wg⟩:=aC R;subst wg;have up:Ext (λq=>(cv j.yA Y.length j.yC).ownBlock=tf q) W8 w9:=Ext.of_grown tD (λq hq=> .inl hq);have v:=up.heap K (λe=>by have:=H.out.t6 _ e;have:=H.out.t1;omega);have ur:t w9:=ub.out _ v;have xj:=(rowAt v 3 rfl).2;have xl:=(rowAt v 3 rfl).1;have xo:=ae v;refine o _ _ ur ?_;clear o;(try go_simp);refine zT 11 rfl d.out ?_;(try go_simp);refine zT 12 rfl d.out ?_;(try go_simp);refine zK rfl λK' o=> ?_;go_simp;refine o _ _ ?_;clear o;refine⟨by kernel_rfl, ?_⟩;have uv:aV T Bb MB lv P N F (C++[xs]) (Y++[(f,g)]) (f,g) B tg w (w9.setCell ⟨T,3,th⟩ (tn we (Y.length+1) c9)):=by
  obtain⟨wj,s3,q1,q2,q3,q4⟩:=Gt H.out u R tD ue vc;refine⟨wj,s3,q1,E.out.trans q2 (λq hq=>tU.out q hq),λk hk=> ?_,λk hk=> ?_⟩
  ·rcases q3 k hk with h|h
   ·exact tU.out k h
   ·exact .inr (eN E.out.size h)
  ·have:=vq.out k hk
   rw[q4 k (by omega),this]
 have wk:=zH uv;clear uv R tD ue up v ur ud K uc z u J;go_wp2
 go_end0
 exact⟨rfl,wk.out⟩
end
theorem vU {N:aw}{Bb:bj}{u:cw}(w:World)(h:w.heap[Bb]?=tf (tA #[Z U N,u] 191 (0,0)))(d:0<=N/\N<=9000000):
  fj am 139 #[tr (tf ⟨Bb,0,th⟩)] w λe w'=>e= tB (Z U (N+1))/\w.setCell ⟨Bb,0,th⟩ (Z U (N+1))=w':=by
 have c0:=(rowAt h 0 rfl).1;have f0:=(rowAt h 0 rfl).2;have f:=ae h;have g:=zH (bk w Bb 0 _ _ (Z U (N+1)) h);clear h;go_enter func139,ntmps139;go_wp2;go_ret;exact⟨rfl,rfl⟩
section
variable {T Bb MB:bj}{lv:cC fg×bj}{P:bp (aw×aw)}{N:aw}{F:aw×aw->aw}{C:bp (bp aw)}{Y:bp (aw×aw)}{at_:aw×aw}{B:bj}{tg:bj->bj}{s:nz}
theorem xS (w:World)(h:Wn T Bb MB lv P N F C Y at_ B tg s w)(f v:aw)(hf:bu f)(hv:bu v)(u x:cC fg)(n1 n2 c1 c2:bj)(y:cC fg):
  zP 107 #[tv #[tr (tf ⟨T,0,th⟩),Z U f,tn u n1 c1,tn x n2 c2,.pointer y],Z U v] w (Z U (F (f,v))):=by
 obtain⟨D,hD⟩:=zE w.heap.size;obtain⟨W1,q⟩:=zE (w.alloc (tA #[tr (tf ⟨T,0,th⟩),Z U f,tn u n1 c1,tn x n2 c2,.pointer y] 129));have z:=gy q;have A:W1.heap[D]?=tf (tA #[tr (tf ⟨T,0,th⟩),Z U f,tn u n1 c1,tn x n2 c2,.pointer y] 129 (0,0)):=by rw[<-q,<-hD];exact alloc_at _ _
 have E:=h.grow z;obtain⟨j,o⟩:=zE ((λw'=>w'=W1.drew):World->Prop);have tD:j W1.drew:=by rw[<-o]
 have t:=E.grow (aq _ _).drew;have G:∀W,j W->(mx 118 (.map (tf MB)) (tv #[Z U f,Z U v]) tj).run am W= .ok (Z U (F (f,v))) W:=λW g=>by
  rw[<-o] at g;subst g;exact t.map.look hf hv
 have J:∀W,j W->W.cell? ⟨D,0,th⟩=tf (tr (tf ⟨T,0,th⟩))/\W.cell? ⟨D,1,th⟩=tf (Z U f)/\W.cell? ⟨T,2,th⟩=tf (.map (tf MB))/\T<W.heap.size:=λW g=>by
  rw[<-o] at g;subst g;exact⟨(rowAt (W:=W1.drew) (show W1.drew.heap[D]?=_ from A) 0 rfl).1,(rowAt (W:=W1.drew) (show W1.drew.heap[D]?=_ from A) 1 rfl).1,(rowAt t.row 2 rfl).1,ae t.row⟩
 have tP:cg (∀W,j W->W=W1.drew):=λW g=>by rw[<-o] at g;exact g
 have d:=zH G;have e:=zH J;have tE:=zH q;have tG:=zH z;clear h q z A E t o G J;go_enter func107,ntmps107
 go_upto_region 1 with(fail)
 rw[tE.out];refine aj 10 j (by kernel_rfl) ?_;refine zT 0 rfl (λw h=>And.intro (e.out w h) (d.out w h)) ?_;(try go_simp);refine zT 1 rfl (λw h=>And.intro (e.out w h) (d.out w h)) ?_;(try go_simp);refine zT 2 rfl (λw h=>And.intro (e.out w h) (d.out w h)) ?_;(try go_simp);refine zT 3 rfl (λw h=>And.intro (e.out w h) (d.out w h)) ?_;(try go_simp);refine zT 4 rfl (λw h=>And.intro (e.out w h) (d.out w h)) ?_;(try go_simp);refine zT 5 rfl (λw h=>And.intro (e.out w h) (d.out w h)) ?_;(try go_simp);refine zT 6 rfl (λw h=>And.intro (e.out w h) (d.out w h)) ?_;(try go_simp);refine zT 7 rfl (λw h=>And.intro (e.out w h) (d.out w h)) ?_;(try go_simp);refine zT 8 rfl (λw h=>And.intro (e.out w h) (d.out w h)) ?_;(try go_simp);refine zT 9 rfl (λw h=>And.intro (e.out w h) (d.out w h)) ?_;(try go_simp);refine zK rfl λK' K=> ?_;go_simp;refine K _ _ ?_;clear K;refine⟨by kernel_rfl, ?_⟩;have R:aE w.heap.size w W1.drew:=tG.out.drew;have tM:=zH R;clear R tD;go_wp2;go_ret;exact⟨rfl,tM.out⟩
theorem kF (w:World)(h:Wn T Bb MB lv P N F C Y at_ B tg s w)(hN:0<=N/\N<=9000000)(f v:aw)(hf:bu f)(hv:bu v)(hF:0<=F (f,v)/\F (f,v)<=9000000)(A E:cC fg)(n1 n2 c1 c2:bj)(J:cC fg)(ao:cC fg)(xs:bp aw)(cap:bj)(hx:ak w ao xs)(we:ao=th->cap=0)(wg:cap<xs.length+2)
  (uc:(xs++[F (f,v),F (f,v)+1]).all (bH N)=ti)(yb:xs.length<=70000)(hl:C.length+1<=1000000)(wj:Y.length+1<=1000000):
  fj am 106 #[tv #[tr (tf ⟨T,0,th⟩),Z U f,tn A n1 c1,tn E n2 c2,.pointer J],Z U v,tn ao xs.length cap] w λe w'=>e= tB (.tuple #[])/\aV T Bb MB lv P N F (C++[xs++[F (f,v),F (f,v)+1]]) (Y++[at_]) at_ B tg w w':=by
 obtain⟨D,hD⟩:=zE w.heap.size;obtain⟨W1,tE⟩:=zE (w.alloc (tA #[tr (tf ⟨T,0,th⟩),Z U f,tn A n1 c1,tn E n2 c2,.pointer J] 129));have tG:=gy tE;have tU:W1.heap[D]?=tf (tA #[tr (tf ⟨T,0,th⟩),Z U f,tn A n1 c1,tn E n2 c2,.pointer J] 129 (0,0)):=by rw[<-tE,<-hD];exact alloc_at _ _
 have h1:=h.grow tG;have ud:=hx.below tG;obtain⟨x,tM⟩:=zE ((λw'=>aE W1.heap.size W1 w'):World->Prop);have wk:x W1.drew:=by rw[<-tM];exact(aq _ _).drew
 have ue:∀W,x W->aE W1.heap.size W1 W:=λW o=>by rw[<-tM] at o;exact o
 have up:∀W,aE W1.heap.size W1 W->x W:=λW o=>by rw[<-tM];exact o
 have wl:=ae tU;have ur:∀W,x W->W.cell? ⟨D,0,th⟩=tf (tr (tf ⟨T,0,th⟩))/\W.cell? ⟨D,1,th⟩=tf (Z U f)/\W.cell? ⟨D,2,th⟩=tf (tn A n1 c1)/\W.cell? ⟨D,3,th⟩=tf (tn E n2 c2)/\W.cell? ⟨D,4,th⟩=tf (.pointer J)/\D<W.heap.size:=λW o=>by
  have r:=((ue W o).block D wl).trans tU;exact⟨(rowAt r 0 rfl).1,(rowAt r 1 rfl).1,(rowAt r 2 rfl).1,(rowAt r 3 rfl).1,(rowAt r 4 rfl).1,ae r⟩
 have HO:cg (∀W,aE W1.heap.size W1 W->zP 107 #[tv #[tr (tf ⟨T,0,th⟩),Z U f,tn A n1 c1,tn E n2 c2,.pointer J],Z U v] W (Z U (F (f,v)))):=λW o=>xS W (h1.grow o) f v hf hv A E n1 n2 c1 c2 J;have t:=zH ur;have tP:=zH up;have H1:=zH h1;have ws:=zH ud;have xf:=zH tE;have uv:=zH tG;have ux:=zH uc;obtain⟨i0,xj,xl,xo,xp⟩:=m6 iQ;obtain⟨z,hz⟩:=zE (F (f,v));rw[hz] at HO ux hF⊢;have xr:dt.wrap (z+1)=z+1:=by simp[eC,eE,ef];omega
 clear h hx tE tG tU h1 ud tM ue up ur uc hz;go_enter func106,ntmps106
 go_upto_region 1 with(fail)
 rw[xf.out];refine aj 12 x (by kernel_rfl) ?_;refine zT 0 rfl t.out ?_;(try go_simp);refine zT 1 rfl t.out ?_;(try go_simp);refine zT 2 rfl t.out ?_;(try go_simp);refine zT 3 rfl t.out ?_;(try go_simp);refine zT 4 rfl t.out ?_;(try go_simp);refine zT 6 rfl t.out ?_;(try go_simp);refine zT 7 rfl t.out ?_;(try go_simp);refine zO 5 rfl λK' d=> ?_;go_simp;go_at_call 107;refine(HO.out W1.drew (aq _ _).drew).mono ?_;rintro e w5 ⟨rfl,vc⟩;have K:aE W1.heap.size W1 w5:=(aq _ _).drew.trans vc;have vd:x w5:=tP.out _ K;refine d _ _ vd ?_;clear d;(try go_simp);refine zO 8 rfl λK' d=> ?_;go_simp;go_at_call 107;refine(HO.out w5 K).mono ?_;rintro e w6 ⟨rfl,vf⟩;have tR:aE W1.heap.size W1 w6:=K.trans (vf.mono K.size);have vh:x w6:=tP.out _ tR;refine d _ _ vh ?_;clear d;(try go_simp);refine zT 9 rfl t.out ?_;(try go_simp);refine zO 10 rfl λK' d=> ?_;go_simp;obtain⟨G,hG⟩:=zE w6.heap.size;obtain⟨W8,R⟩:=zE (w6.alloc (tA #[Z U z,Z U (z+1)] 3));(try rw[hG]);(try rw[R]);have vm:=gy R;have tD:aE W1.heap.size W1 W8:=tR.trans (vm.mono tR.size);have vp:W8.heap[G]?=tf (tA #[Z U z,Z U (z+1)] 3 (0,0)):=by rw[<-R,<-hG];exact alloc_at _ _
 (try rw[xr]);(try rw[R]);refine d _ _ (tP.out _ tD) ?_;clear d;(try go_simp);refine zO 11 rfl λK' d=> ?_;have tW:=ws.out.below tD;refine bI (.tmp 8) (.tmp 16) 35 rfl 3 i0 _ 1 8 gv xj xl xo xp rfl (by decide) ao xs.length cap (xs.map (eS .i64)) rfl (λh=>⟨by have:=tW;rw[h] at this;rw[this.nil_of_none];rfl,we h⟩) (by simp) (λb hb j u hu=>by
  rw[qs] at hu;obtain⟨y,hy,rfl⟩:=gE.1 hu;obtain⟨g,yd,e1,_,e3⟩:=tW (by intro e;rw[e] at hy;simp at hy);rw[hb] at e1;obtain rfl:=cy e1;rw[cU];exact e3 j y hy) ⟨G,0,th⟩ 2 2 [Z U z,Z U (z+1)] rfl rfl (λjj uu hu=>by rw[cU,cI,bt _ _ _ _ _ _ vp];simpa using hu) (by simp[cn]) wg (by unfold du;omega) (by omega) ?_
 intro v9 w9 ua vq;have vr:aE W8.heap.size W8 w9:=(Ext.of_grown (M:=λ_=>lj) vq (λq hq=>by cases hq)).below (cd _) (λq h=>h.elim);have tS:aE W1.heap.size W1 w9:=tD.trans (vr.mono tD.size);obtain⟨ub,c9,xt⟩:=aC ua;subst xt;have vt:aU w9 W8.heap.size (tn ub (xs.length+2) c9) (xs++[z,z+1]):=by unfold aU;simpa using ua
 have vu:=vt.at_;refine d _ _ (tP.out _ tS) ?_;clear d;(try go_simp);refine zK rfl λK' d=> ?_;go_simp;have xF:cg (fj am 56 #[tr (tf ⟨T,0,th⟩),tn ub (xs.length+2) c9] w9 λe w'=>e= tB (.tuple #[])/\aV T Bb MB lv P N F (C++[xs++[z,z+1]]) (Y++[at_]) at_ B tg w9 w'):=by
  unfold cg;have:=iP w9 (H1.out.grow tS) hN ub (xs++[z,z+1]) c9 vu ux.out (by simp;omega) hl wj;simpa using this
 have vx:aE w.heap.size w w9:=uv.out.trans (tS.mono uv.out.size);have xT:=zH vx;go_at_call 56;refine xF.out.mono ?_;rintro e ye ⟨rfl,vy⟩;refine d _ _ ?_;clear d;refine⟨by kernel_rfl, ?_⟩;have ya:=zH (aV.below xT.out vy);clear vy vx ua vq vr tS vt vu tW vp R vm tD vf tR vc K wk hG vd vh;go_wp2
 go_end0
 exact⟨rfl,ya.out⟩
end
structure mf (w:World)(T RB:bj)(c:dP)(b:bj->bj->bj):Prop where
 tab:∃RA,w.heap[T]?=tf (tA (gu c RA RB) 196 (0,0))
 behind:w.heap[RB]?=tf (tA (dK c.ins.length ((c.nvars+63)/64) RB c.ins.length) 199 (0,0))
 words:∀x,x<c.ins.length->bP w (RB+1+x) ((c.nvars+63)/64) (b x)
 ltB:∀x j,b x j<18446744073709551616
 says:∀x v,x<c.ins.length->v<c.nvars->(aZ (b x) v=ti↔eD c.ins v x)
theorem mf.of {w:World}{T d RB:bj}{c:dP}{a b:bj->bj->bj}(h:ED w T d RB c a b):mf w T RB c b:=
 ⟨⟨d,h.tab.tab⟩,h.tab.behind,h.tab.words,h.ltB,λx v e f=>(h.says x v e f).1⟩
theorem mf.ext {w w':World}{T RB:bj}{c:dP}{b:bj->bj->bj}{M:bj->Prop}(h:mf w T RB c b)(d:Ext M w w')(f:¬M T)(e:∀k,RB<=k->k<=RB+c.ins.length->¬M k):mf w' T RB c b:=by
 obtain⟨g,j⟩:=h.tab;exact⟨⟨g,d.heap j f⟩,d.heap h.behind (e _ (cd _) (by omega)),λx o=>(h.words x o).ext d (e _ (by omega) (by omega)),h.ltB,h.says⟩
theorem mf.below {w w':World}{T RB:bj}{c:dP}{b:bj->bj->bj}(h:mf w T RB c b)(hb:aE w.heap.size w w'):mf w' T RB c b:=
 h.ext (Ext.of_below_size (M:=λ_=>lj) hb) (λh=>h) (λ_ _ _ h=>h)
def InT (c:dP)(at_ v:aw):Prop:=0<=at_/\at_<(c.ins.length:aw)/\0<=v/\v<(c.nvars:aw)
instance (c:dP)(at_ v:aw):Decidable (InT c at_ v):=by unfold InT;infer_instance
theorem Dr (w:World)(T RB:bj)(c:dP)(b:bj->bj->bj)(at_ v:aw)(h:mf w T RB c b):
  zS 147 #[tr (tf ⟨T,0,th⟩),Z U at_,Z U v] w (tt (decide (InT c at_ v))):=by
 obtain⟨y,t⟩:=h.tab;have c2:=zR t 2 (tn c.varsA c.nvars c.varsC);have z:=zR t 8 (tn (tf ⟨y,0,th⟩) c.ins.length c.ins.length);obtain⟨e,u⟩:=zE (decide (InT c at_ v));rw[u];have f:=zH u;clear h t u
 by_cases g:0<=at_
 ·by_cases j:at_<(c.ins.length:aw)
  ·by_cases o:0<=v
   ·by_cases q:v<(c.nvars:aw)
    ·have d:cg (e=ti):=by unfold cg;rw[<-f.out];exact cR ⟨g,j,o,q⟩
     go_enter oR,ob;go_wp2;go_ret;exact⟨by rw[d.out];rfl,rfl⟩
    ·have d:cg (e=tj):=by unfold cg;rw[<-f.out];exact cm (λh=>q h.2.2.2)
     have x:decide (v<(c.nvars:aw))=tj:=cm q;clear q;go_enter oR,ob;go_wp2;go_ret;exact⟨by rw[d.out];rfl,rfl⟩
   ·have d:cg (e=tj):=by unfold cg;rw[<-f.out];exact cm (λh=>o h.2.2.1)
    have x:decide (0<=v)=tj:=cm o;clear o;go_enter oR,ob;go_wp2;go_ret;exact⟨by rw[d.out];rfl,rfl⟩
  ·have d:cg (e=tj):=by unfold cg;rw[<-f.out];exact cm (λh=>j h.2.1)
   have x:decide (at_<(c.ins.length:aw))=tj:=cm j;clear j;go_enter oR,ob;go_wp2;go_ret;exact⟨by rw[d.out];rfl,rfl⟩
 ·have d:cg (e=tj):=by unfold cg;rw[<-f.out];exact cm (λh=>g h.1)
  have x:decide (0<=at_)=tj:=cm g;clear g;go_enter oR,ob;go_wp2;go_ret;exact⟨by rw[d.out];rfl,rfl⟩
theorem mY (w:World)(T RB:bj)(c:dP)(b:bj->bj->bj)(x v:bj)(h:mf w T RB c b)(d:x<c.ins.length)(o:v<c.nvars)(q:c.ins.length<=90000)(t:c.nvars<=90000):
  zS 108 #[tr (tf ⟨T,0,th⟩),Z U (x:aw),Z U (v:aw)] w (tt (aZ (b x) v)):=by
 have hI:=Dr w T RB c b x v h;rw[cR (show InT c x v from⟨by omega,by omega,by omega,by omega⟩)] at hI;have g:=zH hI;obtain⟨u,f⟩:=h.tab;have y:=zR f 9 (tn (tf ⟨RB,0,th⟩) c.ins.length c.ins.length);have c9:w.cell? ⟨RB,x,th⟩=tf (tn (tf ⟨RB+1+x,0,th⟩) ((c.nvars+63)/64) ((c.nvars+63)/64)):=by
  rw[bt _ _ _ _ _ _ h.behind,dR _ _ _ d,cH d]
 have j:=zH (xJ w (RB+1+x) ((c.nvars+63)/64) ((c.nvars+63)/64) v (b x) (h.words x d) (λi=>h.ltB x i) (by omega) (by omega));have z:(x:aw)<(c.ins.length:aw):=by omega
 clear hI h f;go_enter func108,ntmps108
 go_wp2_with (first|(go_at_call 147;refine g.out.mono ?_;rintro e w2 ⟨rfl,rfl⟩)|(go_at_call 148;refine j.out.mono ?_;rintro e A ⟨rfl,rfl⟩))
 go_ret;exact⟨rfl,rfl⟩
structure BJ (w:World)(TT RB:bj)(c:dP)(b:bj->bj->bj)(tg:bj->bj)(hi:bj):Prop where
 tab:mf w TT RB c b
 lt1:TT<hi
 lt2:RB+c.ins.length<hi
 lt3:hi<=w.heap.size
 z1:tg TT=0
 z2:∀k,RB<=k->k<hi->tg k=0
structure As (T Bb MB:bj)(lv:cC fg×bj)(P:bp (aw×aw))(N:aw)(F:aw×aw->aw)(C:bp (bp aw))(Y:bp (aw×aw))(at_:aw×aw)(B:bj)(tg:bj->bj)(s:nz)(w0:World)(TT RB:bj)(c:dP)(b:bj->bj->bj)(hi:bj)(w:World):Prop where
 wn:Wn T Bb MB lv P N F C Y at_ B tg s w
 tz:BJ w TT RB c b tg hi
 lo:aE B w0 w
 hB:w0.heap.size=B
section
variable {T Bb MB:bj}{lv:cC fg×bj}{P:bp (aw×aw)}{N:aw}{F:aw×aw->aw}{C C2:bp (bp aw)}{Y Y2:bp (aw×aw)}{at_ at2:aw×aw}{B:bj}{tg:bj->bj}{s:nz}{w0 w w':World}{TT RB hi:bj}{c:dP}{b:bj->bj->bj}
theorem BJ.grow (h:BJ w TT RB c b tg hi)(hb:aE w.heap.size w w'):BJ w' TT RB c b tg hi:=⟨h.tab.below hb,h.lt1,h.lt2,eN h.lt3 hb.size,h.z1,h.z2⟩
theorem BJ.mv {d:bj->bj}(h:BJ w TT RB c b tg hi)(g:Ext (λq=>tg q≠0) w w')(j:∀k,d k≠0->tg k≠0\/w.heap.size<=k):BJ w' TT RB c b d hi:=by
 have u:=h.lt3;have v:=h.lt1;have x:=h.lt2;refine⟨h.tab.ext g (λe=>e h.z1) (λk f o e=>e (h.z2 k f (by omega))),h.lt1,h.lt2,eN h.lt3 g.size, ?_,λk f o=> ?_⟩
 ·cases t:d TT with
  |zero=>rfl
  |succ q=>
   rcases j TT (by omega) with e|e
   ·exact fz h.z1 e
   ·omega
 ·cases t:d k with
  |zero=>rfl
  |succ q=>
   rcases j k (by omega) with e|e
   ·exact fz (h.z2 k f o) e
   ·omega
theorem As.grow (h:As T Bb MB lv P N F C Y at_ B tg s w0 TT RB c b hi w)(hb:aE w.heap.size w w'):As T Bb MB lv P N F C Y at_ B tg s w0 TT RB c b hi w':=
 ⟨h.wn.grow hb,h.tz.grow hb,h.lo.trans (hb.mono (by have:=(h.wn.lo T (by rw[h.wn.t1];decide));omega)),h.hB⟩
theorem As.mv (h:As T Bb MB lv P N F C Y at_ B tg s w0 TT RB c b hi w)(j:aV T Bb MB lv P N F C2 Y2 at2 B tg w w'):∃d e,As T Bb MB lv P N F C2 Y2 at2 B d e w0 TT RB c b hi w'/\Ext (λq=>tg q≠0) w w'/\(∀k,d k≠0->tg k≠0\/w.heap.size<=k)/\∀k,tg k≠0->d k=tg k:=by
 obtain⟨d,e,o,f,g,t⟩:=j;exact⟨d,e,⟨o,h.tz.mv f g,h.lo.trans (f.below (by have:=(h.wn.lo T (by rw[h.wn.t1];decide));omega) (λq u=>(h.wn.lo q u).1)),h.hB⟩,f,g,t⟩
theorem As.ints (h:As T Bb MB lv P N F C Y at_ B tg s w0 TT RB c b hi w){ao:cC fg}{xs:bp aw}(d:ak w0 ao xs):ak w ao xs:=d.below (by rw[h.hB];exact h.lo)
theorem o7 {d:bj->bj}{f:World}(g:Ext (λq=>tg q≠0) w f)(j:∀k,d k≠0->tg k≠0\/w.heap.size<=k)(o:∀k,tg k≠0->d k=tg k)(h:aV T Bb MB lv P N F C2 Y2 at2 B d f w'):aV T Bb MB lv P N F C2 Y2 at2 B tg w w':=by
 obtain⟨t,u,v,x,y,z⟩:=h;refine⟨t,u,v,g.trans x (λq A=>j q A),λk e=> ?_,λk e=> ?_⟩
 ·rcases y k e with h|h
  ·exact j k h
  ·exact .inr (eN g.size h)
 ·have:=o k e
  rw[z k (by omega),this]
end
theorem lq {f:bj->ml}{j:bj}(d:∀k,k<j->f k=tj)(g:f j=tj):∀k,k<j+1->f k=tj:=λk h=>by
 by_cases e:k=j
 ·rw[e];exact g
 ·exact d k (by omega)
section
variable {T Bb MB:bj}{lv:cC fg×bj}{P:bp (aw×aw)}{N:aw}{F:aw×aw->aw}{C:bp (bp aw)}{Y:bp (aw×aw)}{at_:aw×aw}{B:bj}{tg:bj->bj}{s:nz}{w0:World}{TT RB hi:bj}{c:dP}{b:bj->bj->bj}
def aX (b:bj->bj->bj)(k:bj)(v:aw):ml:=aZ (b k) v.toNat
theorem Ac (w:World)(h:As T Bb MB lv P N F C Y at_ B tg s w0 TT RB c b hi w)(f:aw)(a1 a2:cC fg)(n1 n2 c1 c2:bj)(i:Ins)(K:cC fg)(gc:bj)(tP:i.argsV= tn K i.args.length gc)(ua:∃ao n cap,i.modeV= tn ao n cap)(tR:ak w0 K i.args)(ub:i.args.length<=40)
  (n:bj)(v:aw)(u:i.args[n]?=tf v)(k:bj)(hk:k<c.ins.length)(hv:isVar c.nvars v=ti)(uc:c.ins.length<=90000)(ud:c.nvars<=90000):
  zP 195 #[tv #[tr (tf ⟨T,0,th⟩),Z U f,tn a1 n1 c1,tn a2 n2 c2,tr (tf ⟨TT,0,th⟩)],tv i.cells,Z U (n:aw),Z U (k:aw)] w (tt (eG (aX b k) i.d i.args n v)):=by
 obtain⟨o,rfl⟩:∃o:bj,v=(o:aw):=⟨v.toNat,by have:=(bJ.1 hv).1;omega⟩
 have ue:o<c.nvars:=by have:=(bJ.1 hv).2;omega
 obtain⟨D,R⟩:=zE w.heap.size;obtain⟨W1,x⟩:=zE ((w.alloc (tA #[tr (tf ⟨T,0,th⟩),Z U f,tn a1 n1 c1,tn a2 n2 c2,tr (tf ⟨TT,0,th⟩)] 129)).alloc (tA i.cells 42));have W:=EX x;have tS:=vZ x R;have G:=yo x R;have up:W1.heap.size=D+2:=by rw[<-x];simp[R]
 have h1:=h.grow W;have tD:=h1.ints tR;obtain⟨mo,mn,mc,tU⟩:=ua;obtain⟨op,d,a,bb,ff,nn,vh,argsV,modeV,vm,vp,ln,cl,args⟩:=i;simp only at tP tU u ub tD⊢;subst tP tU;simp only[Ins.cells] at x G⊢;have q7:W1.cell? ⟨D+1,7,th⟩=tf (tn K args.length gc):=(rowAt G 7 rfl).1;have q1:W1.cell? ⟨D+1,1,th⟩=tf (Z U d):=(rowAt G 1 rfl).1;have p4:W1.cell? ⟨D,4,th⟩=tf (tr (tf ⟨TT,0,th⟩)):=(rowAt tS 4 rfl).1;have ur:args≠[]:=by intro e;rw[e] at u;simp at u
 obtain⟨g,uv,rfl,hg,tE⟩:=tD ur;have e1:=tE n _ u;have vq:n<args.length:=(bo.1 u).1;have vr:(n:aw)<(args.length:aw):=by omega
 have ux:=zH (mY W1 TT RB c b k o h1.tz.tab hk ue uc ud);have tG:cg (eG (aX b k) d args n (o:aw)=(((gb args.length).any λj=>decide (j≠n)&&args.getD j 0==(o:aw))||(decide ((o:aw)≠d)&&aZ (b k) o))):=by unfold cg eG aX;simp
 have vc:cg (∀(i:bj)(z:aw),args[i]?=tf z->W1.cell? ⟨g,uv+i,th⟩=tf (Z U z)):=tE;have vd:=zH x;have tM:=zH W;have HN:=zH u;have vt:D+1<W1.heap.size:=by omega
 clear h x W tS G up h1 tD tR tE u;go_enter func195,ntmps195
 go_upto_region 1 with(fail)
 rw[vd.out]
 go_upto_region 3 with(fail)
 go_loopw [20] (λkk wr=>∃j:bj,j<=args.length/\kk= Z U (j:aw)/\(∀q,q<j->(decide (q≠n)&&args.getD q 0==(o:aw))=tj)/\wr=W1) (λkk _=>args.length-(dp kk).toNat)
 case atStart=>exact⟨0,cM _,rfl,λq hq=>by omega,rfl⟩
 case round=>
  obtain⟨j,hj,rfl,hz,rfl⟩:=hrel;have HZ:=zH hz;clear hz
  by_cases tW:j<args.length
  ·obtain⟨y,hy⟩:∃y,args[j]?=tf y:=⟨_,ap tW⟩
   have ey:=vc.out j y hy;have vu:(j:aw)<(args.length:aw):=by omega
   have HY:cg (args.getD j 0=y):=by unfold cg;rw[nj,hy];rfl
   clear hy
   by_cases A:j=n
   ·have t1:((j:aw)==(n:aw))=ti:=by rw[A];exact kO _
    have t2:((j:aw) != (n:aw))=tj:=by rw[bne,t1];rfl
    have t:cg ((decide (j≠n)&&args.getD j 0==(o:aw))=tj):=by unfold cg;rw[cm (λh=>h A)];rfl
    have vx:=zH A;clear A;go_wp2;go_roundw
    case rel=>exact⟨j+1,by omega,by go_num,lq HZ.out t.out,by first|rfl|trivial⟩
    case measure=>simp[dp];omega
   ·have t1:((j:aw)==(n:aw))=tj:=eR (by omega)
    have t2:((j:aw) != (n:aw))=ti:=by rw[bne,t1];rfl
    by_cases J:y=(o:aw)
    ·have t3:(y==(o:aw))=ti:=by rw[J];exact kO _
     have t:cg (((gb args.length).any λj=>decide (j≠n)&&args.getD j 0==(o:aw))=ti):=by
      unfold cg;rw[js];exact⟨j,by rw[pf];exact tW,by rw[cR A,HY.out,t3];rfl⟩
     clear J A;go_wp2;go_ret;exact⟨by rw[tG.out,t.out];rfl,tM.out⟩
    ·have t3:(y==(o:aw))=tj:=eR J
     have t:cg ((decide (j≠n)&&args.getD j 0==(o:aw))=tj):=by unfold cg;rw[HY.out,t3,Bool.and_false]
     clear J A;go_wp2;go_roundw
     case rel=>exact⟨j+1,by omega,by go_num,lq HZ.out t.out,by first|rfl|trivial⟩
     case measure=>simp[dp];omega
  ·have vf:j=args.length:=by omega
   have t:cg (((gb args.length).any λj=>decide (j≠n)&&args.getD j 0==(o:aw))=tj):=by
    unfold cg;rw[j8];intro q hq;rw[pf] at hq;rw[HZ.out q (by omega)];simp
   clear vf
   by_cases E:(o:aw)=d
   ·have t1:((o:aw)==d)=ti:=by rw[E];exact kO _
    have t2:((o:aw) != d)=tj:=by rw[bne,t1];rfl
    have HV:cg ((decide ((o:aw)≠d)&&aZ (b k) o)=tj):=by unfold cg;rw[cm (λh=>h E)];rfl
    clear E;go_wp2;go_ret;exact⟨by rw[tG.out,t.out,HV.out];rfl,tM.out⟩
   ·have t1:((o:aw)==d)=tj:=eR E
    have t2:((o:aw) != d)=ti:=by rw[bne,t1];rfl
    have HV:cg ((decide ((o:aw)≠d)&&aZ (b k) o)=aZ (b k) o):=by unfold cg;rw[cR E];rfl
    clear E
    go_wp2_with (go_at_call 108;refine ux.out.mono ?_;rintro e w2 ⟨rfl,rfl⟩)
    go_ret;exact⟨by rw[tG.out,t.out,HV.out];rfl,tM.out⟩
end
end Go.Proofs.YtjomgckjhcfbgaaGreat
