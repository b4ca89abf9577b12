/- Walks. -/
import Derived.Maps.OwnOps
import Derived.Maps.Views
import Derived.DeepKeys4
import Derived.Test.YtjomgckjhcfbgaaGreatU5
import Derived.Test.YtjomgckjhcfbgaaGreatU15
set_option maxRecDepth 100000
set_option maxHeartbeats 64000000
set_option linter.all false
namespace Go.Proofs.YtjomgckjhcfbgaaGreat
open Go.RowKit
open Go.Proofs.Tryz renaming prog→am,underlying3→dl,underlying35→gb,underlying121→ot,ntmps147→pj,func147→pL,ntmps152→pS,func152→qT,ntmps118→rb,underlying46→rn,func118→sk
open _root_.List renaming getElem?_eq_getElem→ap,getElem?_eq_some_iff→bl,mem_of_getElem?→cd,take_length→cR,mem_singleton→cU,mem_append→cX,range→du,length_cons→eV,mem_cons→gh,mem_map→gi,flatMap_append→gn,all_eq_true→gA,any_eq_true→kh,any_eq_false→lx,length_pos_iff→ms,getElem?_append_left→mB,mem_range→oc,getD_eq_getElem?_getD→ox,getElem?_append→rh,getElem?_map→rm,not_mem_nil→sB,nodup_cons→ti
open Go.RowKit.Below renaming refl→aq
open _root_ renaming Int→aw,Nat→bh,List→bj,if_neg→bx,decide_eq_false→cv,Option→cG,if_pos→cI,decide_eq_true→cV,beq_false_of_ne→ef,Array→eA,absurd→fL,beq_self_eq_true→iS,False→me,Bool→mm,of_decide_eq_true→m7,decide_eq_true_eq→oE
open Go.RowKit renaming Below→aE,Hid→cj,intOf→de
open Go renaming heap_setCell_same→bk,cell_of_row→bw,Value→cA,maxLen→eC,Addr→fS,Calls→ge,TypeId→gt,info_parts→kB,MemPlace→n9,plainElem→rI
open _root_.Nat renaming le_refl→cg,lt_of_lt_of_le→cH,zero_add→cL,zero_le→cN,le_trans→eJ
open Go.Value renaming slice→ci,oneCell'→ct,int→eS,slice→tU,pointer→tW,bool→ua,agg→ub,int→Z
open _root_.Option.some renaming inj→cE
open Go.Addr renaming add_lit→cY
open Go.IntKind renaming i64→dT,signed→ep,wrap→eK,bits→eL,i64→U
open _root_.Int renaming toNat_natCast→eW
open _root_.Bool renaming and_eq_true→fj,true→tP,false→tR
open _root_.Option renaming map_eq_some_iff→ip,some→tG,none→tM
open Go.Instr renaming lookup→nr
open _root_.Classical renaming byContradiction→nF
open Go.WalkArith renaming wf_i64→oA
open _root_.Prod.mk renaming injEq→qs,inj→sf
open Go.Obj renaming cells→uc
open Go.Ending renaming returned→ud
open Tryz
theorem l7 {α:Type}{f:α->aw}:∀{l:bj α},aV f l=0->∀x∈l,f x=0
 |[],_,x,g=>fL g (by simp)
 |y::r,h,x,g=>by
  unfold aV at h
  by_cases d:f y=0
  ·rw[cI d] at h
   rcases gh.1 g with e|e
   ·rw[e];exact d
   ·exact l7 h x e
  ·rw[bx d] at h;exact fL h d
theorem iD {b:mm}{f:aw}(d:f≠0)(h:bU b f=0):b=tP:=by
 unfold bU at h;cases b with
 |true=>rfl
 |false=>rw[bx (by simp)] at h;exact fL h d
theorem bP {n:bh}{v:aw}:isVar n v=tP↔0<=v/\v<(n:aw):=by
 unfold isVar;simp
theorem gL {m:Mo}(h:eU m=0):m.fs.length<=60/\m.ss.length<=30/\dJ m=tR/\(bV m).all m.known=tP/\(∀g∈m.fs,codeF m g=0)/\0<=m.fnIx dO:=by
 unfold eU at h
 by_cases j:30<m.ss.length\/60<m.fs.length
 ·rw[cI j] at h;exact fL h (by decide)
 ·rw[bx j] at h
  by_cases e:dJ m=tP
  ·rw[cI e] at h;exact fL h (by decide)
  ·rw[bx e] at h
   by_cases f:(bV m).all m.known=tR
   ·rw[cI f] at h;exact fL h (by decide)
   ·rw[bx f] at h
    by_cases d:aV (codeF m) m.fs≠0
    ·rw[cI d] at h;exact fL h d
    ·rw[bx d] at h
     have o:=iD (by decide) h;rw[fj,oE] at o;exact⟨by omega,by omega,by simpa using e,by simpa using f,l7 (nF d),o.1⟩
theorem jG {m:Mo}{g:Fn}(h:codeF m g=0):g.vs.length<=300/\1<=g.c.ins.length/\g.c.ins.length<=3000/\0<=g.c.par/\g.c.par<=(g.vs.length:aw)/\(∀i∈g.c.ins,aF m g i=0):=by
 unfold codeF at h
 by_cases e:300<g.vs.length\/g.c.ins.length<1\/3000<g.c.ins.length
 ·rw[cI e] at h;exact fL h (by decide)
 ·rw[bx e] at h
  by_cases f:g.c.par<0\/(g.vs.length:aw)<g.c.par
  ·rw[cI f] at h;exact fL h (by decide)
  ·rw[bx f] at h
   by_cases d:aV (aF m g) g.c.ins≠0
   ·rw[cI d] at h;exact fL h d
   ·exact⟨by omega,by omega,by omega,by omega,by omega,l7 (nF d)⟩
theorem iO {m:Mo}{g:Fn}{i:Ins}(h:aF m g i=0):1<=i.op/\i.op<=18/\(∀v∈readsOf i,isVar g.vs.length v=tP)/\(qY i.op=tP->isVar g.vs.length i.d=tP)/\(i.op=15->iL m g.vs i=0):=by
 unfold aF at h
 by_cases j:i.op<1\/18<i.op
 ·rw[cI j] at h;exact fL h (by decide)
 ·rw[bx j] at h
  by_cases f:aP g.vs.length (readsOf i++(if qY i.op then[i.d] else[]))=tR
  ·rw[cI f] at h;exact fL h (by decide)
  ·rw[bx f] at h
   have e:aP g.vs.length (readsOf i++(if qY i.op then[i.d] else[]))=tP:=by simpa using f
   unfold aP at e;rw[List.all_append,fj,gA] at e;refine⟨by omega,by omega,e.1,λq=> ?_,λt=> ?_⟩
   ·have o:=e.2
    rw[q] at o;simpa using o
   ·rw[cI t] at h;exact h
theorem C8 {m:Mo}{vs:bj Vr}{i:Ins}(h:iL m vs i=0):0<=i.f/\∃g,m.fs[i.f.toNat]?=tG g/\(i.args.length:aw)=g.c.par/\g.c.par<=(g.vs.length:aw)/\iT vs g.vs 0 i.args=tP/\ay vs i.d=g.ret:=by
 unfold iL at h
 by_cases j:i.f<0
 ·rw[cI j] at h;exact fL h (by decide)
 ·rw[bx j] at h
  cases o:m.fs[i.f.toNat]? with
  |none=>rw[o] at h;exact fL h (by simp)
  |some g=>
   rw[o] at h;simp only at h
   by_cases q:(i.args.length:aw)≠g.c.par\/(g.vs.length:aw)<g.c.par
   ·rw[cI q] at h;exact fL h (by decide)
   ·rw[bx q] at h
    by_cases e:iT vs g.vs 0 i.args=tR
    ·rw[cI e] at h;exact fL h (by decide)
    ·rw[bx e] at h
     have t:=iD (by decide) h;exact⟨by omega,g,rfl,by omega,by omega,by simpa using e,by simpa using t⟩
def bK (f:aw):bh->bj Vr->bj (aw×aw)
 |_,[]=>[]
 |v,x::r=>(if x.ptr=tP then[(f,(v:aw))] else[])++bK f (v+1) r
def dD (f:aw)(g:Fn):bj (aw×aw):=bK f 0 g.vs++(if g.c.rp=tP then[(f,-1)] else[])
def bY:bh->bj Fn->bj (aw×aw)
 |_,[]=>[]
 |f,g::r=>dD f g++bY (f+1) r
def Mo.ptrs (m:Mo):bj (aw×aw):=bY 0 m.fs
def aG:bh->bj (aw×aw)->aw×aw->aw
 |_,[],_=>0
 |k,p::r,x=>if p=x then 2*(k:aw)+1 else aG (k+1) r x
theorem mG {x:aw×aw}:∀{P:bj (aw×aw)}{k:bh},x∈P->2*(k:aw)+1<=aG k P x/\aG k P x+1<=2*((k:aw)+(P.length:aw))
 |[],_,h=>fL h (by simp)
 |p::r,k,h=>by
  unfold aG
  by_cases d:p=x
  ·rw[cI d,eV];omega
  ·rw[bx d,eV]
   have:=mG (P:=r) (k:=k+1) (by rcases gh.1 h with e|e;exact fL e.symm d;exact e);omega
theorem kD {x:aw×aw}:∀{P:bj (aw×aw)}{k:bh},x∉P->aG k P x=0
 |[],_,_=>rfl
 |p::r,k,h=>by
  unfold aG;rw[bx (λe=>h (by rw[e];simp))];exact kD (λd=>h (by simp[d]))
theorem A9 {x:aw×aw}:∀{P:bj (aw×aw)}{k i:bh},P.Nodup->P[i]?=tG x->aG k P x=2*((k+i:bh):aw)+1
 |[],_,i,_,h=>by simp at h
 |p::r,k,i,f,h=>by
  obtain⟨g,j⟩:=ti.1 f;unfold aG;cases i with
  |zero=>
   obtain rfl:p=x:=by simpa using h
   rw[cI rfl];omega
  |succ i=>
   have d:r[i]?=tG x:=by simpa using h
   rw[bx (λe=>g (by rw[e];exact cd d)),A9 j d];omega
theorem iE {f:aw}{x:aw×aw}:∀{l:bj Vr}{v:bh},x∈bK f v l↔∃(k:bh) (y:Vr),l[k]?=tG y/\y.ptr=tP/\x=(f,((v+k:bh):aw))
 |[],v=>by simp[bK]
 |y::r,v=>by
  unfold bK;rw[cX,iE];constructor
  ·rintro(h|⟨k,z,d,e,g⟩)
   ·by_cases j:y.ptr=tP
    ·rw[cI j,cU] at h
     exact⟨0,y,rfl,j,by rw[h];rfl⟩
    ·rw[bx j] at h;exact fL h (by simp)
   ·exact⟨k+1,z,by simpa using d,e,by rw[g];congr 2;omega⟩
  ·rintro⟨k,z,d,e,g⟩
   cases k with
   |zero=>
    obtain rfl:y=z:=by simpa using d
    exact .inl (by rw[cI e,g];simp)
   |succ k=>exact .inr ⟨k,z,by simpa using d,e,by rw[g];congr 2;omega⟩
theorem jl {x:aw×aw}:∀{l:bj Fn}{f:bh},x∈bY f l↔∃(k:bh) (g:Fn),l[k]?=tG g/\x∈dD ((f+k:bh):aw) g
 |[],f=>by simp[bY]
 |g::r,f=>by
  unfold bY;rw[cX,jl];constructor
  ·rintro(h|⟨k,z,d,e⟩)
   ·exact⟨0,g,rfl,h⟩
   ·exact⟨k+1,z,by simpa using d,by rw[show f+(k+1)=f+1+k by omega];exact e⟩
  ·rintro⟨k,z,d,e⟩
   cases k with
   |zero=>
    obtain rfl:g=z:=by simpa using d
    exact .inl e
   |succ k=>exact .inr ⟨k,z,by simpa using d,by rw[show f+1+k=f+(k+1) by omega];exact e⟩
theorem fB {m:Mo}{f:bh}{g:Fn}(h:m.fs[f]?=tG g){v:aw}(j:isVar g.vs.length v=tP)(d:(ay g.vs v).1=tP):((f:aw),v)∈m.ptrs:=by
 obtain⟨o,q⟩:=bP.1 j;unfold Mo.ptrs;rw[jl];refine⟨f,g,h, ?_⟩;unfold dD;rw[cX,iE];obtain⟨n,rfl⟩:∃n:bh,v=(n:aw):=⟨v.toNat,by omega⟩
 obtain⟨y,e⟩:∃y,g.vs[n]?=tG y:=⟨_,ap (by omega)⟩
 refine .inl ⟨n,y,e, ?_,by rw[cL,cL]⟩;unfold ay at d;rw[eW,e] at d;exact d
theorem F9 {m:Mo}{f:bh}{g:Fn}(d:m.fs[f]?=tG g)(e:g.ret.1=tP):((f:aw),(-1:aw))∈m.ptrs:=by
 unfold Mo.ptrs;rw[jl];refine⟨f,g,d, ?_⟩;unfold dD;rw[cI (show g.c.rp=tP from e),cX,cL];exact .inr (by simp)
theorem rT {m:Mo}{f v:aw}(h:(f,v)∈m.ptrs):∃(k:bh) (g:Fn),m.fs[k]?=tG g/\f=(k:aw)/\((v= -1/\g.ret.1=tP)\/(isVar g.vs.length v=tP/\(ay g.vs v).1=tP)):=by
 unfold Mo.ptrs at h;rw[jl] at h;obtain⟨k,g,q,h⟩:=h;rw[cL] at h;unfold dD at h;rw[cX,iE] at h;refine⟨k,g,q, ?_⟩;rcases h with⟨j,y,e,t,o⟩|h
 ·rw[cL] at o
  obtain⟨rfl,rfl⟩:=sf o;refine⟨rfl,.inr ⟨bP.2 ⟨by omega,by have:=(bl.1 e).1;omega⟩, ?_⟩⟩;unfold ay;rw[eW,e];exact t
 ·by_cases d:g.c.rp=tP
  ·rw[cI d,cU] at h
   obtain⟨rfl,rfl⟩:=sf h;exact⟨rfl,.inl ⟨rfl,d⟩⟩
  ·rw[bx d] at h;exact fL h (by simp)
def l8 (o:aw->aw)(p:aw)(d:mm)(a:aw):bj (bj aw):=
 if p=0 then[] else[[-p,o a]]++(if d=tP then[[-p]] else[])++[[-(p+1),o a,o a+1]]
def dE (beh:aw->mm)(d:aw)(args:bj aw)(n:bh)(a:aw):mm:=((du args.length).any λj=>decide (j≠n)&&args.getD j 0==a)||(decide (a≠d)&&beh a)
def nH (P:bj (aw×aw))(o:aw->aw)(beh:aw->mm)(i:Ins):bh->bj aw->bj (bj aw)
 |_,[]=>[]
 |n,a::r=>l8 o (aG 0 P (i.f,(n:aw))) (dE beh i.d i.args n a) a++nH P o beh i (n+1) r
def fT (P:bj (aw×aw))(f:aw)(beh:aw->mm)(i:Ins):bj (bj aw):=
 let o:aw->aw:=λv=>aG 0 P (f,v)
 if i.op=12 then[[o i.d]]
 else if i.op=13 then[[o i.a]]
 else if i.op=9 then[[-(o i.d),o i.a]]++(if i.a≠i.d/\beh i.a=tP then[[-(o i.d)]] else[])++[[-(o i.d+1),o i.a,o i.a+1]]
 else if i.op=10 then[[-(o i.d),o i.a,o i.a+1],[-(o i.d+1),o i.a,o i.a+1]]
 else if i.op=8 then[[o i.a,o i.a+1]]
 else if i.op=11 then[[o i.b],[o i.a,o i.a+1]]++(if beh i.b=tP then[[-(o i.b)]] else[])
 else if i.op=15 then nH P o beh i 0 i.args++(if 0<o i.d then[[-(o i.d),aG 0 P (i.f,-1)],[o i.d,-(aG 0 P (i.f,-1))],[-(o i.d+1),aG 0 P (i.f,-1)+1],[o i.d+1,-(aG 0 P (i.f,-1)+1)]] else[])
 else if i.op=18 then(if o (-1)=0 then[] else[[-(o (-1)),o i.a],[o (-1),-(o i.a)],[-(o (-1)+1),o i.a+1]])
 else[]
def ik (N:aw)(x:aw):Prop:=x≠0/\x<=N/\-N<=x
def yN (N:aw)(c:bj aw):Prop:=1<=c.length/\c.length<=3/\∀x∈c,ik N x
section
variable {N a b:aw}
theorem wS (h:ik N a):yN N [a]:=⟨by simp,by simp,λx d=>by rw[cU] at d;rw[d];exact h⟩
theorem jQ (h:ik N a)(f:ik N b):yN N [a,b]:=⟨by simp,by simp,λx d=>by rcases gh.1 d with e|d;rw[e];exact h;rw[cU] at d;rw[d];exact f⟩
theorem DT {c:aw}(h:ik N a)(f:ik N b)(g:ik N c):yN N [a,b,c]:=⟨by simp,by simp,λx d=>by rcases gh.1 d with e|d;rw[e];exact h;exact(jQ f g).2.2 x d⟩
theorem cO {P:bj (aw×aw)}{x:aw×aw}(h:x∈P):ik (2*(P.length:aw)) (aG 0 P x)/\ik (2*(P.length:aw)) (-(aG 0 P x))/\ik (2*(P.length:aw)) (aG 0 P x+1)/\ik (2*(P.length:aw)) (-(aG 0 P x+1)):=by
 have:=mG (k:=0) h;unfold ik;omega
end
theorem pJ {P:bj (aw×aw)}{x:aw×aw}(h:aG 0 P x≠0):x∈P:=nF λd=>h (kD d)
theorem Ba {d e:bj Vr}:∀{l:bj aw}{k n:bh}{a:aw},iT d e k l=tP->l[n]?=tG a->ay d a=ay e ((k+n:bh):aw)
 |[],_,_,_,_,h=>by simp at h
 |x::r,k,n,a,h,f=>by
  unfold iT at h;rw[fj] at h;cases n with
  |zero=>
   obtain rfl:x=a:=by simpa using f
   exact eq_of_beq h.1
  |succ n=>
   have:=Ba (k:=k+1) (n:=n) h.2 (by simpa using f);rw[this];congr 2;omega
theorem nU {m:Mo}{e:bj Vr}{i:Ins}{o:aw}{j:mm}(h:dA m e i o j=0):(ay e i.a).1=tP/\(ay e o).1=j:=by
 unfold dA at h
 by_cases d:(aM m e i.a i.f).2≠0
 ·rw[cI d] at h;exact fL h d
 ·rw[bx d] at h
  have g:=iD (by decide) h;rw[fj] at g;refine⟨?_, ?_⟩
  ·unfold aM at d
   cases q:(ay e i.a).1 with
   |true=>rfl
   |false=>rw[cI q] at d;exact fL (by decide) d
  ·rw[<-eq_of_beq g.1];exact eq_of_beq g.2
theorem Bc {m:Mo}{g:Fn}{i:Ins}(h:aF m g i=0):
  (i.op=12->(ay g.vs i.d).1=tP)/\(i.op=13->(ay g.vs i.a).1=tP)/\(i.op=9->(ay g.vs i.a).1=tP/\(ay g.vs i.d).1=tP)/\
  (i.op=10->(ay g.vs i.a).1=tP/\(ay g.vs i.d).1=tP)/\(i.op=8->(ay g.vs i.a).1=tP)/\(i.op=11->(ay g.vs i.a).1=tP/\(ay g.vs i.b).1=tP)/\(i.op=18->ay g.vs i.a=g.ret):=by
 obtain⟨u,v,_⟩:=iO h;unfold aF at h;rw[bx (by omega)] at h
 by_cases o:aP g.vs.length (readsOf i++(if qY i.op then[i.d] else[]))=tR
 ·rw[cI o] at h;exact fL h (by decide)
 rw[bx o] at h;refine⟨λe=> ?_,λe=> ?_,λe=> ?_,λe=> ?_,λe=> ?_,λe=> ?_,λe=> ?_⟩
 ·rw[bx (by omega),bx (by omega),bx (by omega),bx (by omega)] at h
  unfold ax at h;rw[bx (by omega),bx (by omega),bx (by omega),bx (by omega),bx (by omega),bx (by omega),bx (by omega),bx (by omega),bx (by omega),bx (by omega)] at h
  by_cases q:i.f<0
  ·rw[cI q] at h;exact fL h (by decide)
  rw[bx q] at h;cases t:m.ss[i.f.toNat]? with
  |none=>rw[t] at h;exact fL h (by simp)
  |some s=>
   rw[t] at h;have j:=iD (by decide) h;rw[eq_of_beq j]
 ·rw[bx (by omega),bx (by omega),bx (by omega),bx (by omega)] at h
  unfold ax at h;rw[bx (by omega),bx (by omega),bx (by omega),bx (by omega),bx (by omega),cI e] at h;exact iD (by decide) h
 ·rw[bx (by omega),bx (by omega),bx (by omega),bx (by omega)] at h
  unfold ax at h;rw[bx (by omega),bx (by omega),bx (by omega),bx (by omega),bx (by omega),bx (by omega),bx (by omega),cI e] at h;have j:=iD (by decide) h;rw[fj] at j;exact⟨j.1,by rw[<-eq_of_beq j.2];exact j.1⟩
 ·rw[bx (by omega),bx (by omega),bx (by omega),bx (by omega)] at h
  unfold ax at h;rw[bx (by omega),bx (by omega),bx (by omega),bx (by omega),bx (by omega),bx (by omega),bx (by omega),bx (by omega),cI (.inr e)] at h;have:=nU h;rw[cV e] at this;exact this
 ·rw[bx (by omega),bx (by omega),bx (by omega),bx (by omega)] at h
  unfold ax at h;rw[bx (by omega),bx (by omega),bx (by omega),bx (by omega),bx (by omega),bx (by omega),bx (by omega),bx (by omega),bx (by omega),cI (.inl e)] at h;exact(nU h).1
 ·rw[bx (by omega),bx (by omega),bx (by omega),bx (by omega)] at h
  unfold ax at h;rw[bx (by omega),bx (by omega),bx (by omega),bx (by omega),bx (by omega),bx (by omega),bx (by omega),bx (by omega),bx (by omega),cI (.inr e)] at h;have:=nU h;rw[cV e] at this;exact this
 ·rw[bx (by omega),bx (by omega),bx (by omega),cI e] at h
  exact eq_of_beq (iD (by decide) h)
theorem Hg {P:bj (aw×aw)}{f p a:aw}{e:mm}(o:p≠0->ik (2*(P.length:aw)) (-p)/\ik (2*(P.length:aw)) (-(p+1)))(q:p≠0->(f,a)∈P):∀c∈l8 (λv=>aG 0 P (f,v)) p e a,yN (2*(P.length:aw)) c:=by
 unfold l8
 by_cases h:p=0
 ·rw[cI h];simp
 ·rw[bx h]
  obtain⟨g,t⟩:=o h;obtain⟨j,x,u,y⟩:=cO (q h);intro c d;rw[cX,cX,cU,cU] at d;rcases d with(rfl|d)|rfl
  ·exact jQ g j
  ·cases e with
   |true=>rw[cI rfl,cU] at d;rw[d];exact wS g
   |false=>rw[bx (by simp)] at d;exact fL d (by simp)
  ·exact DT t j u
theorem Bd {P:bj (aw×aw)}{f:aw}{beh:aw->mm}{i:Ins}:∀{l:bj aw}{n:bh},(∀(j:bh)(a:aw),l[j]?=tG a->(i.f,((n+j:bh):aw))∈P->(f,a)∈P)->∀c∈nH P (λv=>aG 0 P (f,v)) beh i n l,yN (2*(P.length:aw)) c
 |[],_,_,c,d=>fL d (by simp[nH])
 |a::r,n,h,c,d=>by
  unfold nH at d;rw[cX] at d;rcases d with d|d
  ·exact Hg (λe=>⟨(cO (pJ e)).2.1,(cO (pJ e)).2.2.2⟩) (λe=>h 0 a rfl (pJ e)) c d
  ·exact Bd (λj b g o=>h (j+1) b (by simpa using g) (by rw[show n+(j+1)=n+1+j by omega];exact o)) c d
theorem wT {m:Mo}{f:bh}{g:Fn}{i:Ins}{beh:aw->mm}(hr:eU m=0)(t:m.fs[f]?=tG g)(hi:i∈g.c.ins):∀c∈fT m.ptrs (f:aw) beh i,yN (2*(m.ptrs.length:aw)) c:=by
 obtain⟨_,_,_,_,h5,_⟩:=gL hr;have ux:=(jG (h5 g (cd t))).2.2.2.2.2 i hi;obtain⟨_,_,q3,q4,q5⟩:=iO ux;obtain⟨vh,vm,p9,vc,p8,vd,vp⟩:=Bc ux;have z:sP i.op=tP->isVar g.vs.length i.a=tP:=λh=>q3 i.a (by
  unfold readsOf
  by_cases e:i.op=15
  ·rw[e] at h;exact fL h (by decide)
  ·rw[bx e];simp[h])
 have vb:i.op=11->isVar g.vs.length i.b=tP:=λh=>q3 i.b (by unfold readsOf;rw[h];simp[sP,rM]);intro c o;unfold fT at o;simp only at o
 by_cases ue:i.op=12
 ·rw[cI ue,cU] at o
  rw[o];exact wS (cO (fB t (q4 (by rw[ue];rfl)) (vh ue))).1
 rw[bx ue] at o
 by_cases up:i.op=13
 ·rw[cI up,cU] at o
  rw[o];exact wS (cO (fB t (z (by rw[up];rfl)) (vm up))).1
 rw[bx up] at o
 by_cases A:i.op=9
 ·rw[cI A,cX,cX,cU,cU] at o
  obtain⟨u,J,v,a4⟩:=cO (fB t (z (by rw[A];rfl)) (p9 A).1);obtain⟨d1,d2,d3,d4⟩:=cO (fB t (q4 (by rw[A];rfl)) (p9 A).2);rcases o with(rfl|o)|rfl
  ·exact jQ d2 u
  ·by_cases K:i.a≠i.d/\beh i.a=tP
   ·rw[cI K,cU] at o;rw[o];exact wS d2
   ·rw[bx K] at o;exact fL o (by simp)
  ·exact DT d4 u v
 rw[bx A] at o
 by_cases E:i.op=10
 ·rw[cI E] at o
  obtain⟨u,J,v,a4⟩:=cO (fB t (z (by rw[E];rfl)) (vc E).1);obtain⟨d1,d2,d3,d4⟩:=cO (fB t (q4 (by rw[E];rfl)) (vc E).2);rcases gh.1 o with rfl|o
  ·exact DT d2 u v
  ·rw[cU] at o;rw[o];exact DT d4 u v
 rw[bx E] at o
 by_cases e8:i.op=8
 ·rw[cI e8,cU] at o
  obtain⟨u,J,v,a4⟩:=cO (fB t (z (by rw[e8];rfl)) (p8 e8));rw[o];exact jQ u v
 rw[bx e8] at o
 by_cases G:i.op=11
 ·rw[cI G,cX] at o
  obtain⟨u,J,v,a4⟩:=cO (fB t (z (by rw[G];rfl)) (vd G).1);obtain⟨b1,b2,b3,b4⟩:=cO (fB t (vb G) (vd G).2);rcases o with o|o
  ·rcases gh.1 o with rfl|o
   ·exact wS b1
   ·rw[cU] at o;rw[o];exact jQ u v
  ·by_cases K:beh i.b=tP
   ·rw[cI K,cU] at o;rw[o];exact wS b2
   ·rw[bx K] at o;exact fL o (by simp)
 rw[bx G] at o
 by_cases R:i.op=15
 ·rw[cI R,cX] at o
  obtain⟨c0,h,c1,c2,c3,c4,c5⟩:=C8 (q5 R);have hf:((i.f.toNat:bh):aw)=i.f:=by omega
  rcases o with o|o
  ·refine Bd (λj a ha hm=> ?_) c o
   obtain⟨k,h',y,k2,q⟩:=rT hm;have hk:i.f.toNat=k:=by omega
   subst hk;rw[c1] at y;obtain rfl:=cE y;rw[cL] at q;rcases q with q|⟨_,q⟩
   ·omega
   ·have vq:=q3 a (by unfold readsOf;rw[cI R];simp[cd ha])
    refine fB t vq ?_;have:=Ba c4 ha;rw[cL] at this;rw[this];exact q
  ·by_cases hd:0<aG 0 m.ptrs ((f:aw),i.d)
   ·rw[cI hd] at o
    have vf:=pJ (P:=m.ptrs) (x:=((f:aw),i.d)) (by omega);obtain⟨d1,d2,d3,d4⟩:=cO vf;have vr:isVar g.vs.length i.d=tP:=q4 (by rw[R];rfl);have ur:(i.f,(-1:aw))∈m.ptrs:=by
     obtain⟨k,g',y,k2,q⟩:=rT vf;have hk:f=k:=by omega
     subst hk;rw[t] at y;obtain rfl:=cE y;rcases q with q|⟨_,q⟩
     ·have:=(bP.1 vr).1;omega
     ·rw[<-hf];exact F9 c1 (by rw[<-c5];exact q)
    obtain⟨r1,r2,r3,r4⟩:=cO ur;simp only[gh,sB,or_false] at o;rcases o with rfl|rfl|rfl|rfl
    ·exact jQ d2 r1
    ·exact jQ d1 r2
    ·exact jQ d4 r3
    ·exact jQ d3 r4
   ·rw[bx hd] at o;exact fL o (by simp)
 rw[bx R] at o
 by_cases uv:i.op=18
 ·rw[cI uv] at o
  by_cases hz:aG 0 m.ptrs ((f:aw),(-1:aw))=0
  ·rw[cI hz] at o;exact fL o (by simp)
  ·rw[bx hz] at o
   have ur:=pJ hz;obtain⟨r1,r2,r3,r4⟩:=cO ur;obtain⟨k,g',y,k2,q⟩:=rT ur;have hk:f=k:=by omega
   subst hk;rw[t] at y;obtain rfl:=cE y;have vt:g.ret.1=tP:=by
    rcases q with⟨_,q⟩|⟨q,_⟩
    ·exact q
    ·have:=(bP.1 q).1;omega
   obtain⟨u,J,v,a4⟩:=cO (fB t (z (by rw[uv];rfl)) (by rw[vp uv];exact vt));simp only[gh,sB,or_false] at o;rcases o with rfl|rfl|rfl
   ·exact jQ r2 u
   ·exact jQ r1 J
   ·exact jQ r4 v
 rw[bx uv] at o;exact fL o (by simp)
def bZ (P:bj (aw×aw))(f:aw)(beh:bh->aw->mm):bh->bj Ins->bj (bj aw×(aw×aw))
 |_,[]=>[]
 |k,i::r=>(fT P f (beh k) i).map (λc=>(c,(f,(k:aw))))++bZ P f beh (k+1) r
def bB (f:aw):bh->bj (aw×aw)->bj (bj aw×(aw×aw))
 |_,[]=>[]
 |k,p::r=>(if p.1=f then[([-(2*(k:aw)+1),-(2*(k:aw)+2)],(f,(-1:aw)))] else[])++bB f (k+1) r
def iq (P:bj (aw×aw))(beh:bh->bh->aw->mm):bh->bj Fn->bj (bj aw×(aw×aw))
 |_,[]=>[]
 |f,g::r=>bB (f:aw) 0 P++bZ P (f:aw) (beh f) 0 g.c.ins++iq P beh (f+1) r
def Mo.wants (m:Mo)(beh:bh->bh->aw->mm):bj (bj aw×(aw×aw)):=iq m.ptrs beh 0 m.fs
theorem wU {P:bj (aw×aw)}{f:aw}{beh:bh->aw->mm}{x:bj aw×(aw×aw)}:∀{l:bj Ins}{k:bh},x∈bZ P f beh k l->∃(j:bh) (i:Ins),l[j]?=tG i/\x.1∈fT P f (beh (k+j)) i/\x.2=(f,((k+j:bh):aw))
 |[],k,h=>fL h (by simp[bZ])
 |i::r,k,h=>by
  unfold bZ at h;rw[cX,gi] at h;rcases h with⟨c,d,rfl⟩|h
  ·exact⟨0,i,rfl,d,rfl⟩
  ·obtain⟨j,y,d,e,g⟩:=wU h
   exact⟨j+1,y,by simpa using d,by rw[show k+(j+1)=k+1+j by omega];exact e,by rw[g];congr 2;omega⟩
theorem wV {f:aw}{x:bj aw×(aw×aw)}:∀{l:bj (aw×aw)}{k:bh},x∈bB f k l->∃(j:bh) (p:aw×aw),l[j]?=tG p/\p.1=f/\x=([-(2*((k+j:bh):aw)+1),-(2*((k+j:bh):aw)+2)],(f,(-1:aw)))
 |[],k,h=>fL h (by simp[bB])
 |p::r,k,h=>by
  unfold bB at h;rw[cX] at h;rcases h with h|h
  ·by_cases d:p.1=f
   ·rw[cI d,cU] at h
    exact⟨0,p,rfl,d,h⟩
   ·rw[bx d] at h;exact fL h (by simp)
  ·obtain⟨j,q,e,g,o⟩:=wV h
   exact⟨j+1,q,by simpa using e,g,by rw[o,show k+1+j=k+(j+1) by omega]⟩
theorem wW {P:bj (aw×aw)}{beh:bh->bh->aw->mm}{x:bj aw×(aw×aw)}:∀{l:bj Fn}{f:bh},x∈iq P beh f l->∃(j:bh) (g:Fn),l[j]?=tG g/\(x∈bB ((f+j:bh):aw) 0 P\/x∈bZ P ((f+j:bh):aw) (beh (f+j)) 0 g.c.ins)
 |[],f,h=>fL h (by simp[iq])
 |g::r,f,h=>by
  unfold iq at h;rw[cX,cX] at h;rcases h with h|h
  ·exact⟨0,g,rfl,h⟩
  ·obtain⟨j,y,d,e⟩:=wW h
   exact⟨j+1,y,by simpa using d,by rw[show f+(j+1)=f+1+j by omega];exact e⟩
theorem Ga {m:Mo}{beh:bh->bh->aw->mm}(q:eU m=0){x:bj aw×(aw×aw)}(t:x∈m.wants beh):
  yN (2*(m.ptrs.length:aw)) x.1/\∃(k:bh) (g:Fn),m.fs[k]?=tG g/\x.2.1=(k:aw)/\-1<=x.2.2/\x.2.2<(g.c.ins.length:aw):=by
 obtain⟨f,g,o,h⟩:=wW t;rw[cL] at h;rcases h with h|h
 ·obtain⟨j,p,e,_,d⟩:=wV h
  have v:=(bl.1 e).1;rw[d];refine⟨jQ ?_ ?_,f,g,o,rfl,by simp, ?_⟩
  ·unfold ik;omega
  ·unfold ik;omega
  ·show(-1:aw)<_;omega
 ·obtain⟨j,i,e,u,d⟩:=wU h
  refine⟨wT q o (cd e) _ u,f,g,o,by rw[d],by rw[d];simp<;>omega, ?_⟩;rw[d,cL];have:=(bl.1 e).1
  show((j:bh):aw)<_
  omega
section
open Go.RowKit Go.Maps
theorem I4:laidOutB am=tP:=by kernel_rfl
theorem IB:(121:gt)<am.types.size:=m7 (by kernel_rfl)
theorem Hl:am.keyTypeAt 2 121=tP:=by kernel_rfl
theorem tX:Keyed am 121:=Keyed.of_law (deep_law_laid I4 (m:=2) (show 2+1<=10000 from Nat.le_of_ble_eq_true rfl) IB Hl (by rw[ot]))
theorem Gb (w:World):(zeroValue 3).run am w= .ok (Z U 0) w:=by kernel_rfl
def bN (x:aw):Prop:= -9223372036854775808<=x/\x<=9223372036854775807
def EG (f v:aw):Lit:= .string (keyBytes [.int .i64 f,.int .i64 v])
theorem mH {f v:aw}(e:bN f)(g:bN v):keyOf am 121 (ub #[Z U f,Z U v])=tG (EG f v):=by
 have h:=oA e;have j:=oA g;have o:am.keyType 121=tP:=by kernel_rfl
 have d:am.cellsOf 121=2:=by kernel_rfl
 have q:am.cellsOf 3=1:=by kernel_rfl
 obtain⟨m,t⟩:∃m,am.types.size=m+1:=⟨am.types.size-1,by have:0<am.types.size:=m7 (by kernel_rfl);omega⟩
 unfold keyOf;simp only[ot];rw[cI (by rw[o];simp[Value.formed,ot,d]),t];unfold Program.keyLits;simp only[ot,Value.cells];rw[cI ⟨by rw[d];rfl,by kernel_rfl⟩];simp[Program.keyLits,dl,q,h,j,EG]
theorem Gc {f v g u:aw}(e:bN f)(j:bN v)(o:bN g)(q:bN u)(h:EG f v=EG g u):f=g/\v=u:=by
 have d:=mH e j;rw[h] at d;have:=tX.inj d (mH o q);simpa using this
theorem tY {v:cA}{z:DataW Unit×bj n9}(h:rI am 3 v=tG z):∃x,v= .int .i64 x/\z=(.lit (.int .i64 x),[]):=by
 unfold rI at h;rw[dl] at h;cases v<;>simp at h;obtain⟨⟨rfl,_⟩,d⟩:=h;exact⟨_,rfl,d.symm⟩
def mR (w:World)(B n:bh)(F:aw×aw->aw):Prop:=∃D:DataW Unit,w.ownsMap am 121 (rI am 3) B n D/\IsMap D/\
 ∀x:aw×aw,bN x.1->bN x.2->D.atKey (EG x.1 x.2) (.lit (.int .i64 0))= .lit (.int .i64 (F x))
theorem mR.made (w:World):mR (w.alloc (.map #[] 0)) w.heap.size 0 (λ_=>0):=
 ⟨.map [],World.ownsMap_made _ _ _ _,isMap_empty,λx _ _=>by simp[DataW.atKey]⟩
theorem mR.ext {w w':World}{B n:bh}{F:aw×aw->aw}{M:bh->Prop}(h:mR w B n F)(d:Ext M w w')(e:¬M B):mR w' B n F:=by
 obtain⟨D,⟨f,g,j,o⟩,q⟩:=h;exact⟨D,⟨f,g,d.heap j e,o⟩,q⟩
theorem mR.look {w:World}{B n:bh}{F:aw×aw->aw}(h:mR w B n F){f v:aw}(e:bN f)(g:bN v):
  (nr 118 (.map (tG B)) (.agg #[.int .i64 f,.int .i64 v]) tR).run am w= .ok (.int .i64 (F (f,v))) w:=by
 obtain⟨D,j,u,o⟩:=h;obtain⟨x,z,q,t⟩:=j.lookup tX underlying118 (Gb w) (plainElem_int dl (oA (by omega))) (mH e g);obtain⟨y,rfl,d⟩:=tY t;rw[o (f,v) e g] at d;simp only[qs,DataW.lit.injEq,Lit.int.injEq,true_and] at d;rw[q,<-d.1]
theorem mR.add {w:World}{B n:bh}{F:aw×aw->aw}(h:mR w B n F){f v z:aw}(d:bN f)(g:bN v)(t:bN z)(u:n<eC):
  ∃w',(Instr.mapUpdate 118 (.map (tG B)) (.agg #[.int .i64 f,.int .i64 v]) (.int .i64 z)).run am w= .ok () w'/\mR w' B (n+1) (λx=>if x=(f,v) then z else F x)/\Ext (·=B) w w':=by
 obtain⟨D,A,j,E⟩:=h;obtain⟨w',G,r1,r2⟩:=A.update tX underlying118 u (mH d g) (plainElem_int dl (oA t));refine⟨w',G,⟨_,r1,j.put _ _,λy o q=> ?_⟩,Ext.of_grown r2 (λk J=> .inl (by simpa using J.symm))⟩
 by_cases e:y=(f,v)
 ·subst e
  rw[atKey_put_same j (by simp[WideAt.IsKeyLit,EG])];simp
 ·rw[atKey_put_other (λh=>e (by have:=Gc d g o q h.symm;exact Prod.ext this.1.symm this.2.symm)),E y o q];simp[e]
theorem wX:(am.info? 121).map (λi=>(i.zero,i.size,i.bytes))=tG (tG (ub #[Z U 0,Z U 0]),2,16):=by kernel_rfl
theorem wY:(am.info? 35).map (λi=>(i.zero,i.size,i.bytes))=tG (tG (tU tM 0 0),1,24):=by kernel_rfl
structure ow where
 fA:cG fS
 fC:bh
 yA:cG fS
 yC:bh
 vals:bj cA
def qh (x:aw×aw):bj cA:=[Z U x.1,Z U x.2]
def Gt (Bb MB:bh)(lv:cG fS×bh)(s:ow)(d e:bh)(at_:aw×aw):eA cA:=
 #[tW (tG ⟨Bb,0,tM⟩),tU lv.1 d lv.2,.map (tG MB),tU s.yA e s.yC,Z U at_.1,Z U at_.2]
structure Wn (T Bb MB:bh)(lv:cG fS×bh)(P:bj (aw×aw))(N:aw)(F:aw×aw->aw)(C:bj (bj aw))(Y:bj (aw×aw))(at_:aw×aw)(B:bh)(tg:bh->bh)(s:ow)(w:World):Prop where
 row:w.heap[T]?=tG (uc (Gt Bb MB lv s P.length Y.length at_) 123 (0,0))
 bld:w.heap[Bb]?=tG (uc #[Z U N,tU s.fA C.length s.fC] 191 (0,0))
 map:mR w MB P.length F
 lrow:w.ownsRow B 121 2 (tU lv.1 P.length lv.2) P.length (P.flatMap qh)
 frow:w.ownsRow B 35 1 (tU s.fA C.length s.fC) C.length s.vals
 yrow:w.ownsRow B 121 2 (tU s.yA Y.length s.yC) Y.length (Y.flatMap qh)
 cls:s.vals.length=C.length/\∀(k:bh)(c:bj aw),C[k]?=tG c->∃ao cap,s.vals[k]?=tG (tU ao c.length cap)/\dH w ao c/\(c≠[]->∀a,ao=tG a->tg a.block=0)
 t1:tg T=1
 t2:tg Bb=2
 t3:tg MB=3
 t4:∀k,(ci lv.1 P.length lv.2).ownBlock=tG k->tg k=4
 t5:∀k,(ci s.fA C.length s.fC).ownBlock=tG k->tg k=5
 t6:∀k,(ci s.yA Y.length s.yC).ownBlock=tG k->tg k=6
 lo:∀k,tg k≠0->B<=k/\k<w.heap.size
 lP:P.length<=30000
 lC:C.length<=1000000
 lY:Y.length<=1000000
section
variable {T Bb MB:bh}{lv:cG fS×bh}{P:bj (aw×aw)}{N:aw}{F:aw×aw->aw}{C:bj (bj aw)}{Y:bj (aw×aw)}{at_:aw×aw}{B:bh}{tg:bh->bh}{s:ow}{w w':World}
theorem Wn.grow (h:Wn T Bb MB lv P N F C Y at_ B tg s w)(d:aE w.heap.size w w'):Wn T Bb MB lv P N F C Y at_ B tg s w':=
 ⟨(d.block T (aa h.row)).trans h.row,(d.block Bb (aa h.bld)).trans h.bld,h.map.ext (Ext.of_below_size (M:=λ_=>me) d) (λh=>h),ownsRow_below h.lrow d,ownsRow_below h.frow d,ownsRow_below h.yrow d,
  ⟨h.cls.1,λk c f=>by obtain⟨ao,cap,g,j,o⟩:=h.cls.2 k c f;exact⟨ao,cap,g,aJ.grow j d,o⟩⟩,h.t1,h.t2,h.t3,h.t4,h.t5,h.t6,λk e=>⟨(h.lo k e).1,cH (h.lo k e).2 d.size⟩,h.lP,h.lC,h.lY⟩
end
def aZ (T Bb MB:bh)(lv:cG fS×bh)(P:bj (aw×aw))(N:aw)(F:aw×aw->aw)(C:bj (bj aw))(Y:bj (aw×aw))(at_:aw×aw)(B:bh)(tg:bh->bh)(w w':World):Prop:=
 ∃d e,Wn T Bb MB lv P N F C Y at_ B d e w'/\Ext (λq=>tg q≠0) w w'/\(∀k,d k≠0->tg k≠0\/w.heap.size<=k)/\∀k,tg k≠0->d k=tg k
theorem Wn.same {T Bb MB:bh}{lv:cG fS×bh}{P:bj (aw×aw)}{N:aw}{F:aw×aw->aw}{C:bj (bj aw)}{Y:bj (aw×aw)}{at_:aw×aw}{B:bh}{tg:bh->bh}{s:ow}{w w':World}(h:Wn T Bb MB lv P N F C Y at_ B tg s w)(d:aE w.heap.size w w'):aZ T Bb MB lv P N F C Y at_ B tg w w':=
 ⟨tg,s,h.grow d,Ext.of_below_size d,λk e=> .inl e,λ_ _=>rfl⟩
theorem aZ.below {T Bb MB:bh}{lv:cG fS×bh}{P:bj (aw×aw)}{N:aw}{F:aw×aw->aw}{C:bj (bj aw)}{Y:bj (aw×aw)}{at_:aw×aw}{B:bh}{tg:bh->bh}{w d w2:World}(e:aE w.heap.size w d)(h:aZ T Bb MB lv P N F C Y at_ B tg d w2):aZ T Bb MB lv P N F C Y at_ B tg w w2:=by
 obtain⟨f,g,j,o,t,u⟩:=h;exact⟨f,g,j,(Ext.of_below_size e).trans o (λq v=> .inl v),λk x=>(t k x).imp id (λh=>eJ e.size h),u⟩
end
theorem cu {w w':World}{ao:cG fS}{xs:bj aw}{M:bh->Prop}(h:dH w ao xs)(e:Ext M w w')(o:∀a,xs≠[]->ao=tG a->¬M a.block):dH w' ao xs:=by
 intro f;obtain⟨b,d,g,j,q⟩:=h f;exact⟨b,d,g,cH j e.size,λi x hi k u t=>(e.cell (a:=⟨b,d+i*1+k,tM⟩) j (o ⟨b,d,tM⟩ f g)).trans (q i x hi k u t)⟩
theorem tZ {w:World}{base n c:bh}{ao:cG fS}{xs:bj aw}(h:aL w base (tU ao n c) xs)(t:n=xs.length):dH w ao xs:=by
 intro f;obtain⟨g,e,_,j,o⟩:=h.shape (ms.2 f);refine⟨g,0,e,j,λi z q k u d=> ?_⟩;cases k with
 |succ k=>simp at d
 |zero=>
  obtain rfl:eS .i64 z=u:=by simpa using d
  simpa using o i z q
section
variable {T Bb MB:bh}{lv:cG fS×bh}{P:bj (aw×aw)}{N:aw}{F:aw×aw->aw}{C:bj (bj aw)}{Y:bj (aw×aw)}{at_:aw×aw}{B:bh}{tg:bh->bh}{s:ow}{w w5 W8 w9:World}
theorem EH {xs:bj aw}{ao a9:cG fS}{cp c9:bh}(h:Wn T Bb MB lv P N F C Y at_ B tg s w)(vc:aE w.heap.size w w5)(vd:aL w5 w.heap.size (tU ao xs.length cp) xs)(up:aE w5.heap.size w5 W8)
  (vf:w9.ownsRow B 35 1 (tU a9 (C.length+1) c9) (C.length+1) (s.vals++[tU ao xs.length cp]))(vq:W8.grownBy w9 (ci s.fA C.length s.fC).ownBlock)
  (E:∀k,(ci a9 (C.length+1) c9).ownBlock=tG k->(ci s.fA C.length s.fC).ownBlock=tG k\/W8.heap.size<=k)(hl:C.length+1<=1000000):
  aZ T Bb MB lv P N F (C++[xs]) Y at_ B tg w (w9.setCell ⟨Bb,1,tM⟩ (tU a9 (C.length+1) c9)):=by
 obtain⟨WF,ur⟩:=zE (w9.setCell ⟨Bb,1,tM⟩ (tU a9 (C.length+1) c9));rw[ur];have uv:aE w.heap.size w W8:=vc.trans (up.mono vc.size);have vh:Ext (λq=>(ci s.fA C.length s.fC).ownBlock=tG q) W8 w9:=Ext.of_grown vq (λq j=> .inl j);have ux:Ext (·=Bb) w9 WF:=by rw[<-ur];exact Ext.set1 w9 Bb 1 _
 have vm:Ext (λq=>q=Bb\/(ci s.fA C.length s.fC).ownBlock=tG q) W8 WF:=(vh.mono (λq h=> .inr h)).trans ux (λq h=> .inl (.inl h));have z:Ext (λq=>q=Bb\/(ci s.fA C.length s.fC).ownBlock=tG q) w WF:=(Ext.of_below_size uv).trans vm (λq h=> .inl h);have v:=h.t5;have G:∀k,tg k≠2->tg k≠5->¬(k=Bb\/(ci s.fA C.length s.fC).ownBlock=tG k):=λk u R x=>by
  rcases x with rfl|x
  ·exact u h.t2
  ·exact R (v k x)
 have J:∀k,tg k≠0->k<w.heap.size:=λk d=>(h.lo k d).2;have wg:w.heap.size<=W8.heap.size:=uv.size;have vr:=aa h.bld;have vt:WF.heap[Bb]?=tG (uc #[Z U N,tU a9 (C.length+1) c9] 191 (0,0)):=by
  rw[<-ur];exact bk w9 Bb 1 _ _ _ (vh.heap ((uv.block Bb vr).trans h.bld) (λe=>by have:=v _ e;have:=h.t2;omega))
 have ue:(C++[xs]).length=C.length+1:=by simp
 have A:∀k,(ci a9 (C.length+1) c9).ownBlock=tG k->tg k≠0->tg k=5:=λk d h0=>by
  rcases E k d with u|u
  ·exact v k u
  ·have:=J k h0;omega
 refine⟨λk=>if (ci a9 (C.length+1) c9).ownBlock=tG k then 5 else tg k,{s with fA:=a9,fC:=c9,vals:=s.vals++[tU ao xs.length cp]},⟨?_, ?_, ?_, ?_, ?_, ?_,⟨?_, ?_⟩, ?_, ?_, ?_, ?_, ?_, ?_, ?_,h.lP,by rw[ue];exact hl,h.lY⟩, ?_, ?_, ?_⟩
 ·exact z.heap h.row (G T (by rw[h.t1];decide) (by rw[h.t1];decide))
 ·rw[ue];exact vt
 ·exact h.map.ext z (G MB (by rw[h.t3];decide) (by rw[h.t3];decide))
 ·exact ah h.lrow z (λk d=>G k (by rw[h.t4 k d];decide) (by rw[h.t4 k d];decide))
 ·rw[ue];exact ah vf ux (λk d e=>by
   subst e;rcases E _ d with u|u
   ·have:=v _ u;have:=h.t2;omega
   ·omega)
 ·exact ah h.yrow z (λk d=>G k (by rw[h.t6 k d];decide) (by rw[h.t6 k d];decide))
 ·simp[h.cls.1]
 ·intro k c y
  rw[rh] at y
  by_cases d:k<C.length
  ·rw[cI d] at y
   obtain⟨vu,vx,u,R,x⟩:=h.cls.2 k c y;refine⟨vu,vx,by rw[mB (by have:=(bl.1 u).1;omega)];exact u,cu R z (λa t e=>G _ (by rw[x t a e];decide) (by rw[x t a e];decide)),λt a e=> ?_⟩;rw[bx (λf=> ?_)]
   ·exact x t a e
   ·obtain⟨b,wj,K,e2,_⟩:=R t
    rw[e] at K;obtain rfl:=cE K;rcases E _ f with o|o
    ·have:=v _ o;have:=x t _ e;omega
    ·simp only at e2 o;omega
  ·rw[bx d] at y
   obtain⟨wk,rfl⟩:k-C.length=0/\xs=c:=by
    cases j:k-C.length with
    |zero=>rw[j] at y;exact⟨rfl,by simpa using y⟩
    |succ q=>rw[j] at y;simp at y
   have vy:k=s.vals.length:=by rw[h.cls.1];omega
   have we:=tZ vd rfl;have vp:∀a,xs≠[]->ao=tG a->w.heap.size<=a.block/\a.block<w5.heap.size:=λa t e=>by
    obtain⟨g,K,e2,e3,_⟩:=vd.shape (ms.2 t);rw[e] at K;obtain rfl:=cE K;exact⟨e2,e3⟩
   have wl:=up.size;refine⟨ao,cp,by rw[vy];simp,cu (aJ.grow we up) vm (λa t e j=> ?_),λt a e=> ?_⟩
   ·have:=vp a t e
    rcases j with j|j
    ·omega
    ·have:=J _ (by rw[v _ j];decide);omega
   ·have u:=vp a t e
    rw[bx (λf=> ?_)]
    ·cases hz:tg a.block with
     |zero=>rfl
     |succ q=>have:=J a.block (by omega);omega
    ·rcases E _ f with o|o
     ·have:=J _ (by rw[v _ o];decide);omega
     ·omega
 ·show(if _ then 5 else tg T)=1
  rw[bx (λf=>by have:=A T f (by rw[h.t1];decide);have:=h.t1;omega)];exact h.t1
 ·show(if _ then 5 else tg Bb)=2
  rw[bx (λf=>by have:=A Bb f (by rw[h.t2];decide);have:=h.t2;omega)];exact h.t2
 ·show(if _ then 5 else tg MB)=3
  rw[bx (λf=>by have:=A MB f (by rw[h.t3];decide);have:=h.t3;omega)];exact h.t3
 ·intro k d
  have o:=h.t4 k d
  show(if _ then 5 else tg k)=4
  rw[bx (λf=>by have:=A k f (by omega);omega)];exact o
 ·intro k d
  rw[ue] at d
  show(if _ then 5 else tg k)=5
  rw[cI d]
 ·intro k d
  have o:=h.t6 k d
  show(if _ then 5 else tg k)=6
  rw[bx (λf=>by have:=A k f (by omega);omega)];exact o
 ·intro k d
  by_cases f:(ci a9 (C.length+1) c9).ownBlock=tG k
  ·have:=ai vf f
   exact⟨this.1,cH this.2 ux.size⟩
  ·simp only[bx f] at d
   exact⟨(h.lo k d).1,cH (J k d) z.size⟩
 ·refine z.mono (λq j=> ?_)
  rcases j with rfl|j
  ·rw[h.t2];decide
  ·rw[v q j];decide
 ·intro k d
  by_cases f:(ci a9 (C.length+1) c9).ownBlock=tG k
  ·rcases E k f with o|o
   ·exact .inl (by rw[v _ o];decide)
   ·exact .inr (by omega)
  ·simp only[bx f] at d
   exact .inl d
 ·intro k d
  by_cases f:(ci a9 (C.length+1) c9).ownBlock=tG k
  ·simp only[cI f];exact(A k f d).symm
  ·simp only[bx f]
theorem IE {f v:aw}{a9:cG fS}{c9:bh}(h:Wn T Bb MB lv P N F C Y (f,v) B tg s w)(R:aE w.heap.size w W8)
  (ur:w9.ownsRow B 121 2 (tU a9 (Y.length+1) c9) (Y.length+1) (Y.flatMap qh++[Z U f,Z U v]))(vc:W8.grownBy w9 (ci s.yA Y.length s.yC).ownBlock)
  (G:∀k,(ci a9 (Y.length+1) c9).ownBlock=tG k->(ci s.yA Y.length s.yC).ownBlock=tG k\/W8.heap.size<=k)(hl:Y.length+1<=1000000):
  aZ T Bb MB lv P N F C (Y++[(f,v)]) (f,v) B tg w (w9.setCell ⟨T,3,tM⟩ (tU a9 (Y.length+1) c9)):=by
 obtain⟨WF,ue⟩:=zE (w9.setCell ⟨T,3,tM⟩ (tU a9 (Y.length+1) c9));rw[ue];have uv:Ext (λq=>(ci s.yA Y.length s.yC).ownBlock=tG q) W8 w9:=Ext.of_grown vc (λq A=> .inl A);have up:Ext (·=T) w9 WF:=by rw[<-ue];exact Ext.set1 w9 T 3 _
 have vd:Ext (λq=>q=T\/(ci s.yA Y.length s.yC).ownBlock=tG q) W8 WF:=(uv.mono (λq h=> .inr h)).trans up (λq h=> .inl (.inl h));have u:Ext (λq=>q=T\/(ci s.yA Y.length s.yC).ownBlock=tG q) w WF:=(Ext.of_below_size R).trans vd (λq h=> .inl h);have x:=h.t6;have E:∀k,tg k≠1->tg k≠6->¬(k=T\/(ci s.yA Y.length s.yC).ownBlock=tG k):=λk o J t=>by
  rcases t with rfl|t
  ·exact o h.t1
  ·exact J (x k t)
 have ux:∀k,tg k≠0->k<w.heap.size:=λk d=>(h.lo k d).2;have vp:w.heap.size<=W8.heap.size:=R.size;have hT:=aa h.row;have vf:WF.heap[T]?=tG (uc (Gt Bb MB lv {s with yA:=a9,yC:=c9} P.length (Y.length+1) (f,v)) 123 (0,0)):=by
  rw[<-ue];exact bk w9 T 3 _ _ _ (uv.heap ((R.block T hT).trans h.row) (λe=>by have:=x _ e;have:=h.t1;omega))
 have K:(Y++[(f,v)]).length=Y.length+1:=by simp
 have y:∀k,(ci a9 (Y.length+1) c9).ownBlock=tG k->tg k≠0->tg k=6:=λk d h0=>by
  rcases G k d with o|o
  ·exact x k o
  ·have:=ux k h0;omega
 refine⟨λk=>if (ci a9 (Y.length+1) c9).ownBlock=tG k then 6 else tg k,{s with yA:=a9,yC:=c9},⟨?_, ?_, ?_, ?_, ?_, ?_,⟨h.cls.1, ?_⟩, ?_, ?_, ?_, ?_, ?_, ?_, ?_,h.lP,h.lC,by rw[K];exact hl⟩, ?_, ?_, ?_⟩
 ·rw[K];exact vf
 ·exact u.heap h.bld (E Bb (by rw[h.t2];decide) (by rw[h.t2];decide))
 ·exact h.map.ext u (E MB (by rw[h.t3];decide) (by rw[h.t3];decide))
 ·exact ah h.lrow u (λk d=>E k (by rw[h.t4 k d];decide) (by rw[h.t4 k d];decide))
 ·exact ah h.frow u (λk d=>E k (by rw[h.t5 k d];decide) (by rw[h.t5 k d];decide))
 ·rw[K,gn];exact ah ur up (λk d e=>by
   subst e;rcases G _ d with o|o
   ·have:=x _ o;have:=h.t1;omega
   ·omega)
 ·intro k c hc
  obtain⟨vh,vm,o,J,t⟩:=h.cls.2 k c hc;refine⟨vh,vm,o,cu J u (λa z e=>E _ (by rw[t z a e];decide) (by rw[t z a e];decide)),λz a e=> ?_⟩;rw[bx (λg=> ?_)]
  ·exact t z a e
  ·obtain⟨b,vq,e1,e2,_⟩:=J z
   rw[e] at e1;obtain rfl:=cE e1;rcases G _ g with j|j
   ·have:=x _ j;have:=t z _ e;omega
   ·simp only at e2 j;omega
 ·show(if _ then 6 else tg T)=1
  rw[bx (λg=>by have:=y T g (by rw[h.t1];decide);have:=h.t1;omega)];exact h.t1
 ·show(if _ then 6 else tg Bb)=2
  rw[bx (λg=>by have:=y Bb g (by rw[h.t2];decide);have:=h.t2;omega)];exact h.t2
 ·show(if _ then 6 else tg MB)=3
  rw[bx (λg=>by have:=y MB g (by rw[h.t3];decide);have:=h.t3;omega)];exact h.t3
 ·intro k d
  have j:=h.t4 k d
  show(if _ then 6 else tg k)=4
  rw[bx (λg=>by have:=y k g (by omega);omega)];exact j
 ·intro k d
  have j:=h.t5 k d
  show(if _ then 6 else tg k)=5
  rw[bx (λg=>by have:=y k g (by omega);omega)];exact j
 ·intro k d
  rw[K] at d
  show(if _ then 6 else tg k)=6
  rw[cI d]
 ·intro k d
  by_cases g:(ci a9 (Y.length+1) c9).ownBlock=tG k
  ·have:=ai ur g
   exact⟨this.1,cH this.2 up.size⟩
  ·simp only[bx g] at d
   exact⟨(h.lo k d).1,cH (ux k d) u.size⟩
 ·refine u.mono (λq A=> ?_)
  rcases A with rfl|A
  ·rw[h.t1];decide
  ·rw[x q A];decide
 ·intro k d
  by_cases g:(ci a9 (Y.length+1) c9).ownBlock=tG k
  ·rcases G k g with j|j
   ·exact .inl (by rw[x _ j];decide)
   ·exact .inr (by omega)
  ·simp only[bx g] at d
   exact .inl d
 ·intro k d
  by_cases g:(ci a9 (Y.length+1) c9).ownBlock=tG k
  ·simp only[cI g];exact(y k g d).symm
  ·simp only[bx g]
end
def bL (n x:aw):mm:= !(x==0)&&decide (x<=n)&&decide (-n<=x)
theorem Hm {n x:aw}(h:ik n x):bL n x=tP:=by
 obtain⟨d,e,f⟩:=h;unfold bL;rw[cV e,cV f,ef d];rfl
theorem vG (n x:aw)(o:0<=n/\n<=9000000)(w:World):zS 118 #[Z U n,Z U x] w (ua (bL n x)):=by
 by_cases h0:x=0
 ·subst h0
  go_enter sk,rb;go_wp2;go_ret;exact⟨rfl,rfl⟩
 have f:(x==0)=tR:=ef h0;have q:(x != 0)=tP:=by rw[bne,f];rfl
 have g:bL n x=(decide (x<=n)&&decide (-n<=x)):=by unfold bL;rw[f];rfl
 rw[g];clear g
 by_cases h:x<=n
 ·have d:decide (x<=n)=tP:=cV h
  by_cases j: -n<=x
  ·have e:decide (-n<=x)=tP:=cV j
   rw[d,e];go_enter sk,rb;go_wp2;go_ret;exact⟨rfl,rfl⟩
  ·have e:decide (-n<=x)=tR:=cv j
   rw[d,e];go_enter sk,rb;go_wp2;go_ret;exact⟨rfl,rfl⟩
 ·have d:decide (x<=n)=tR:=cv h
  rw[d];go_enter sk,rb;go_wp2;go_ret;exact⟨rfl,rfl⟩
theorem yO (n x:aw)(B:bh)(d:0<=n/\n<=9000000)(w:World)(g:w.cell? ⟨B,0,tM⟩=tG (Z U n)):zP 117 #[Z U x,tW (tG ⟨B,0,tM⟩)] w (ua (!bL n x)):=by
 have f:=zH (vG n x d w);go_enter func117,ntmps117
 go_wp2_with (go_at_call 118;refine f.out.mono ?_;rintro e w ⟨rfl,rfl⟩)
 go_ret;exact⟨rfl,aq _ _⟩
theorem Be (w:World)(ao:cG fS)(xs:bj aw)(c B:bh)(p:aw->mm)(hn:xs.length<=eC)(h:ak w ao xs)
  (E:∀W,aE w.heap.size w W->∀z∈xs,zP 117 #[Z U z,tW (tG ⟨B,0,tM⟩)] W (ua (p z))):
  zP 152 #[tU ao xs.length c,.func (.func 117) #[] #[tW (tG ⟨B,0,tM⟩)]] w (Z U (gW p xs)):=by
 have H:=zH h;have HF:=zH E;unfold eC at hn;clear h E;go_enter qT,pS
 go_wp2_with fail
 go_loopw [8] (λk wr=>∃j:bh,j<=xs.length/\k= Z U (j:aw)/\(∀z∈xs.take j,p z=tR)/\aE w.heap.size w wr) (λk _=>xs.length-(de k).toNat)
 case atStart=>exact⟨0,cN _,rfl,by simp,aq _ _⟩
 case round=>
  obtain⟨j,hj,rfl,o,f⟩:=hrel
  by_cases u:j<xs.length
  ·obtain⟨y,t⟩:∃y,xs[j]?=tG y:=⟨_,ap u⟩
   obtain⟨g1,ue,rfl,ur,G⟩:=H.out.below f (by intro e;rw[e] at u;simp at u);have d1:wr.cell? ⟨g1,ue+j,tM⟩=tG (Z U y):=G j y t;have uv:(j:aw)<(xs.length:aw):=by omega
   have v:=zH (HF.out wr f y (cd t));obtain⟨d,x⟩:=zE (p y);rw[x] at v;have g:=zH f;have J:=zH o;have K:=zH t;have R:=zH x;clear f o t x G;cases d with
   |true=>
    go_wp2_with (go_at_call 117;refine v.out.mono ?_;rintro e w2 ⟨rfl,q⟩;have A:=zH q;clear q)
    go_ret;exact⟨by rw[jd J.out K.out R.out];rfl,g.out.trans (A.out.mono g.out.size)⟩
   |false=>
    go_wp2_with (go_at_call 117;refine v.out.mono ?_;rintro e w2 ⟨rfl,q⟩;have A:=zH q;clear q)
    go_roundw
    case rel=>exact⟨j+1,by omega,by go_num,dR J.out K.out R.out,g.out.trans (A.out.mono g.out.size)⟩
    case measure=>simp[de];omega
  ·have up:j=xs.length:=by omega
   subst up;rw[cR] at o;have HM:=zH (gI o);have g:=zH f;clear o f;go_wp2;go_ret;exact⟨by rw[HM.out];rfl,g.out⟩
theorem Ho (xs:bj aw)(p:aw->mm):(!(xs.any λx=> !p x))=xs.all p:=by
 induction xs with
 |nil=>rfl
 |cons x r ih=>simp[Bool.not_or,ih]
theorem pK (n:aw)(g:0<=n/\n<=9000000)(B:bh)(ao:cG fS)(xs:bj aw)(c:bh)(w:World)(j:xs.length<=eC)(h:ak w ao xs)(d:w.cell? ⟨B,0,tM⟩=tG (Z U n))(o:B<w.heap.size):
  zP 116 #[tU ao xs.length c,.func (.func 117) #[] #[tW (tG ⟨B,0,tM⟩)]] w (ua (xs.any λx=> !bL n x)):=by
 have q:=zH (Be w ao xs c B (λx=> !bL n x) j h (λW t z _=>yO n z B g W (by rw[t.cell (p:=⟨B,0,tM⟩) o];exact d)));clear h d;have u:=zH (oO (p:=λx=> !bL n x) (xs:=xs));go_enter func116,ntmps116
 go_wp2_with (go_at_call 152;refine q.out.mono ?_;rintro e w2 ⟨rfl,f⟩;have v:=zH f;clear f)
 go_ret;exact⟨by rw[<-u.out];rfl,v.out⟩
theorem wZ (n:aw)(q:0<=n/\n<=9000000)(ao:cG fS)(xs:bj aw)(c:bh)(w:World)(t:xs.length<=eC)(h:ak w ao xs):
  zP 67 #[Z U n,tU ao xs.length c] w (ua (xs.all (bL n))):=by
 obtain⟨B,u⟩:=zE w.heap.size;obtain⟨W1,d⟩:=zE (w.alloc (uc #[Z U n] 3));have f:=il d;have g:W1.heap[B]?=tG (uc #[Z U n] 3 (0,0)):=by rw[<-d,<-u];exact alloc_at _ _
 have v:=zH (pK n q B ao xs c W1 t (h.below f) (rowAt g 0 rfl).1 (aa g));have x:=zH d;have j:=zH f;have y:=zH (Ho xs (bL n));clear h d f g;go_enter func67,ntmps67
 go_wp2_with (go_at_call 116;rw[x.out];refine v.out.mono ?_;rintro e w2 ⟨rfl,o⟩;have z:=zH o;clear o)
 go_ret;exact⟨by rw[<-y.out];rfl,j.out.trans (z.out.mono j.out.size)⟩
theorem pM (w:World)(ao:cG fS)(xs:bj aw)(cap:bh)(h:ak w ao xs)(K:xs.length<=80000):
  ge am 111 #[tU ao xs.length cap] w λe w'=>∃j o,e= ud (tU j xs.length o)/\aL w' w.heap.size (tU j xs.length o) xs/\aE w.heap.size w w':=by
 have R:∀(w:World)(a:cG fS)(n c d f:bh),(binOp .eql 35 (tU a n c) (tU tM d f)).run am w= .ok (ua a.isNone) w:=λw a n c d f=>Lib.run_eql_slice_nil w _ _ a n c d f gb;cases ao with
 |none=>
  obtain rfl:=h.nil_of_none;clear h;go_enter func111,ntmps111;go_wp2;go_ret;exact⟨tM,0,rfl,aL.nil _ _,aq _ _⟩
 |some t=>
  have u:cj (aL (w.alloc (uc #[] 3)) w.heap.size (tU (tG ⟨w.heap.size,0,tM⟩) 0 0) []):=jR _ _ _ _ (cg _);have v:cj (ak (w.alloc (uc #[] 3)) (tG t) xs):=h.below ((aq _ _).alloc (cg _) _);clear h;go_enter func111,ntmps111
  go_wp2_with (at_builtin;refine aR rfl _ _ rfl w.heap.size _ [] rfl u.out _ xs _ rfl v.out (by simp;omega) (by rw[World.size_alloc];omega) ?_;intro v7 w7 g q;have x:=zH g;have y:=zH q;obtain⟨z,A,E⟩:=g.isSlice;subst E;clear g q)
  go_ret;refine⟨z,A,by simp,by have:=x.out;simpa using this, ?_⟩;exact((aq _ _).alloc (cg _) _).grown y.out (by rw[World.size_alloc];omega) (λk G=>by have J:tG w.heap.size=tG k:=G;have:=cE J;omega)
section
variable {T Bb MB:bh}{lv:cG fS×bh}{P:bj (aw×aw)}{N:aw}{F:aw×aw->aw}{C:bj (bj aw)}{Y:bj (aw×aw)}{at_:aw×aw}{B:bh}{tg:bh->bh}{s:ow}
theorem yP (w:World)(h:Wn T Bb MB lv P N F C Y at_ B tg s w)(hN:0<=N/\N<=9000000)(ao:cG fS)(xs:bj aw)(cap:bh)(A:ak w ao xs)(vc:xs.all (bL N)=tP)(wg:xs.length<=80000)(hl:C.length+1<=1000000):
  ge am 101 #[tW (tG ⟨Bb,0,tM⟩),tU ao xs.length cap] w λe w'=>e= ud (.tuple #[])/\aZ T Bb MB lv P N F (C++[xs]) Y at_ B tg w w':=by
 have E:=h.bld;have wj:=aa E;have wk:B<=w.heap.size:=by have:=(h.lo T (by rw[h.t1];decide));omega
 have c0:=(rowAt E 0 rfl).1;have wl:cj (zP 67 #[Z U N,tU ao xs.length cap] w (ua tP)):=by
  have:=wZ N hN ao xs cap w (by unfold eC;omega) A;rw[vc] at this;exact this
 have H:=zH h;have HX:=zH A;obtain⟨i0,ws,xf,xj,xo⟩:=kB wY;clear h A vc E;go_enter func101,ntmps101
 go_upto_region 1 with(go_at_call 67;refine wl.out.mono ?_;rintro e w2 ⟨rfl,vd⟩;have g:=zH vd;clear vd)
 clear c0;have u:w2.heap[Bb]?=tG (uc #[Z U N,tU s.fA C.length s.fC] 191 (0,0)):=(g.out.block Bb wj).trans H.out.bld;have xp:=aa u;have xt:=zH u;obtain⟨j,v⟩:=zE ((λw'=>w'.heap[Bb]?=tG (uc #[Z U N,tU s.fA C.length s.fC] 191 (0,0))):World->Prop);have yk:j w2.drew:=by rw[<-v];exact u
 have vf:∀W,W.heap[Bb]?=tG (uc #[Z U N,tU s.fA C.length s.fC] 191 (0,0))->j W:=λW h=>by rw[<-v];exact h
 have vh:∀W,j W->W.cell? ⟨Bb,1,tM⟩=tG (tU s.fA C.length s.fC)/\Bb<W.heap.size:=λW h=>by rw[<-v] at h;exact⟨(rowAt h 1 rfl).1,aa h⟩
 have J:=zH vf;have f:=zH vh;have xF:=zH (pM w2.drew ao xs cap ((HX.out.below g.out).below (aq _ _).drew) wg);clear v vf vh u;refine aj 13 j (by kernel_rfl) ?_;refine zT 0 rfl f.out ?_;(try go_simp);refine zT 1 rfl f.out ?_;(try go_simp);refine zT 2 rfl f.out ?_;(try go_simp);refine zT 3 rfl f.out ?_;(try go_simp);refine zT 4 rfl f.out ?_;(try go_simp);refine zT 5 rfl f.out ?_;(try go_simp);refine zT 6 rfl f.out ?_;(try go_simp);refine zO 7 rfl λK d=> ?_;go_simp;go_at_call 111;refine xF.out.mono ?_;rintro e w5 ⟨R,ue,rfl,vm,vp⟩;have o:aE w2.heap.size w2 w5:=(aq _ _).drew.trans vp;have x:=(o.block Bb xp).trans xt.out;refine d _ _ (J.out _ x) ?_;clear d;(try go_simp);refine zO 8 rfl λK d=> ?_;go_simp;obtain⟨G,hG⟩:=zE w5.heap.size;obtain⟨W8,y⟩:=zE (w5.alloc (uc #[tU R xs.length ue] 35));(try rw[hG]);(try rw[y]);have z:=il y;have vq:W8.heap[G]?=tG (uc #[tU R xs.length ue] 35 (0,0)):=by rw[<-y,<-hG];exact alloc_at _ _
 have up:=(z.block Bb (aa x)).trans x;have ur:aE w.heap.size w W8:=g.out.trans ((o.trans (z.mono o.size)).mono g.out.size);refine d _ _ (J.out _ up) ?_;clear d;(try go_simp);refine zO 9 rfl λK d=> ?_;have vr:=H.out.grow ur;have xT:B<=W8.heap.size:=eJ wk ur.size;have yp:s.vals.length=C.length*1:=by have:=H.out.cls.1;omega
 refine aI (.tmp 20) (.tmp 23) 46 rfl B 35 i0 _ 1 24 rn ws xf xj xo rfl (by decide) (tU s.fA C.length s.fC) C.length s.vals rfl vr.frow (tG ⟨G,0,tM⟩) 1 1 [tU R xs.length ue] rfl rfl (λh=>by cases h) (λad yb jj uu hu=>by
  obtain rfl:(⟨G,0,tM⟩:fS)=ad:=by simpa using yb
  rw[cY,cL,bw _ _ _ _ _ _ vq];simpa using hu) (by simp[ct]) (by unfold eC;omega) (by omega) xT ?_
 intro v9 w9 uv ux vt;obtain⟨yd,c9,ye⟩:=aC uv;subst ye;have vu:Ext (λq=>(ci s.fA C.length s.fC).ownBlock=tG q) W8 w9:=Ext.of_grown ux (λq hq=> .inl hq);have t:=vu.heap up (λe=>by have:=H.out.t5 _ e;have:=H.out.t2;omega);have vx:j w9:=J.out _ t;have yq:=(rowAt t 1 rfl).2;have yr:=(rowAt t 1 rfl).1;have yv:=aa t;refine d _ _ vx ?_;clear d;(try go_simp);refine zT 10 rfl f.out ?_;(try go_simp);refine zT 11 rfl f.out ?_;(try go_simp);refine zT 12 rfl f.out ?_;(try go_simp);refine zK rfl λK d=> ?_;go_simp;refine d _ _ ?_;clear d;refine⟨by kernel_rfl, ?_⟩;have vy:aE w.heap.size w w5:=g.out.trans (o.mono g.out.size);have we:aZ T Bb MB lv P N F (C++[xs]) Y at_ B tg w (w9.setCell ⟨Bb,1,tM⟩ (tU yd (C.length+1) c9)):=EH H.out vy (vm.mono (by have:=g.out.size;exact this)) z uv ux vt hl;have yi:=zH we;clear we uv ux vt vu t vx vr up x vq y z o vm vp vy ur hG;go_wp2
 go_end0
 exact⟨rfl,yi.out⟩
end
section
variable {T Bb MB:bh}{lv:cG fS×bh}{P:bj (aw×aw)}{N:aw}{F:aw×aw->aw}{C:bj (bj aw)}{Y:bj (aw×aw)}{at_:aw×aw}{B:bh}{tg:bh->bh}{s:ow}
theorem jm (w:World)(h:Wn T Bb MB lv P N F C Y at_ B tg s w)(hN:0<=N/\N<=9000000)(ao:cG fS)(xs:bj aw)(cap:bh)(hx:ak w ao xs)(up:xs.all (bL N)=tP)(we:xs.length<=80000)(hl:C.length+1<=1000000)(wg:Y.length+1<=1000000):
  ge am 56 #[tW (tG ⟨T,0,tM⟩),tU ao xs.length cap] w λe w'=>e= ud (.tuple #[])/\aZ T Bb MB lv P N F (C++[xs]) (Y++[at_]) at_ B tg w w':=by
 obtain⟨f,g⟩:=at_;have A:=h.row;have yk:=aa A;have ur:B<=w.heap.size:=by have:=(h.lo T (by rw[h.t1];decide));omega
 have c0:=(rowAt A 0 rfl).1;have wj:=zH (yP w h hN ao xs cap hx up we hl);obtain⟨i0,wk,wl,ws,xf⟩:=kB wX;clear h hx up A;go_enter func56,ntmps56
 go_upto_region 1 with(go_at_call 101;refine wj.out.mono ?_;rintro e w2 ⟨rfl,yp,j,uv,ux,vc,vd⟩;have H:=zH uv;have E:=zH ux;have vf:=zH vc;have xj:=zH vd;clear uv ux vc vd)
 clear c0;have x:=H.out.row;have xo:=aa x;have xp:=zH x;obtain⟨t,y⟩:=zE ((λw'=>w'.heap[T]?=tG (uc (Gt Bb MB lv j P.length Y.length (f,g)) 123 (0,0))):World->Prop);have yq:t w2.drew:=by rw[<-y];exact x
 have vh:∀W,W.heap[T]?=tG (uc (Gt Bb MB lv j P.length Y.length (f,g)) 123 (0,0))->t W:=λW h=>by rw[<-y];exact h
 have vm:∀W,t W->W.cell? ⟨T,3,tM⟩=tG (tU j.yA Y.length j.yC)/\W.cell? ⟨T,4,tM⟩=tG (Z U f)/\W.cell? ⟨T,5,tM⟩=tG (Z U g)/\T<W.heap.size:=λW h=>by rw[<-y] at h;exact⟨(rowAt h 3 rfl).1,(rowAt h 4 rfl).1,(rowAt h 5 rfl).1,aa h⟩
 have vp:=zH vh;have d:=zH vm;have xt:B<=w2.heap.size:=eJ ur E.out.size;clear y vh vm x ur;refine aj 13 t (by kernel_rfl) ?_;refine zT 0 rfl d.out ?_;(try go_simp);refine zT 1 rfl d.out ?_;(try go_simp);refine zT 2 rfl d.out ?_;(try go_simp);refine zT 3 rfl d.out ?_;(try go_simp);refine zT 4 rfl d.out ?_;(try go_simp);refine zT 5 rfl d.out ?_;(try go_simp);refine zT 6 rfl d.out ?_;(try go_simp);refine zT 7 rfl d.out ?_;(try go_simp);refine zT 8 rfl d.out ?_;(try go_simp);refine zO 9 rfl λK' o=> ?_;go_simp;obtain⟨G,J⟩:=zE w2.heap.size;obtain⟨W8,z⟩:=zE ((w2.alloc (uc #[Z U f,Z U g] 121)).drew);(try rw[J]);(try rw[z]);have u:aE w2.heap.size w2 W8:=by rw[<-z];exact((aq _ _).alloc (cg _) _).drew
 have vq:W8.heap[G]?=tG (uc #[Z U f,Z U g] 121 (0,0)):=by rw[<-z,<-J];exact alloc_at _ _
 have K:=(u.block T xo).trans xp.out;refine o _ _ (vp.out _ K) ?_;clear o;(try go_simp);refine zO 10 rfl λK' o=> ?_;have vr:=H.out.grow u;have xF:B<=W8.heap.size:=eJ xt u.size;refine aI (.tmp 14) (.tmp 19) 119 rfl B 121 i0 _ 2 16 underlying119 wk wl ws xf rfl (by decide) (tU j.yA Y.length j.yC) Y.length (Y.flatMap qh) rfl vr.yrow (tG ⟨G,0,tM⟩) 1 1 [Z U f,Z U g] rfl rfl (λh=>by cases h) (λad xT jj uu hu=>by
  obtain rfl:(⟨G,0,tM⟩:fS)=ad:=by simpa using xT
  rw[cY,cL,bw _ _ _ _ _ _ vq];simpa using hu) (by simp[ct]) (by unfold eC;omega) (by omega) xF ?_
 intro v9 w9 R ue vt;obtain⟨yb,c9,yd⟩:=aC R;subst yd;have vu:Ext (λq=>(ci j.yA Y.length j.yC).ownBlock=tG q) W8 w9:=Ext.of_grown ue (λq hq=> .inl hq);have v:=vu.heap K (λe=>by have:=H.out.t6 _ e;have:=H.out.t1;omega);have vx:t w9:=vp.out _ v;have yr:=(rowAt v 3 rfl).2;have yv:=(rowAt v 3 rfl).1;have yy:=aa v;refine o _ _ vx ?_;clear o;(try go_simp);refine zT 11 rfl d.out ?_;(try go_simp);refine zT 12 rfl d.out ?_;(try go_simp);refine zK rfl λK' o=> ?_;go_simp;refine o _ _ ?_;clear o;refine⟨by kernel_rfl, ?_⟩;have vy:aZ T Bb MB lv P N F (C++[xs]) (Y++[(f,g)]) (f,g) B tg w (w9.setCell ⟨T,3,tM⟩ (tU yb (Y.length+1) c9)):=by
  obtain⟨ye,s3,q1,q2,q3,q4⟩:=IE H.out u R ue vt wg;refine⟨ye,s3,q1,E.out.trans q2 (λq hq=>vf.out q hq),λk hk=> ?_,λk hk=> ?_⟩
  ·rcases q3 k hk with h|h
   ·exact vf.out k h
   ·exact .inr (eJ E.out.size h)
  ·have:=xj.out k hk
   rw[q4 k (by omega),this]
 have yi:=zH vy;clear vy R ue vt vu v vx vr K vq z u J;go_wp2
 go_end0
 exact⟨rfl,yi.out⟩
end
theorem xc {N:aw}{Bb:bh}{u:cA}(w:World)(h:w.heap[Bb]?=tG (uc #[Z U N,u] 191 (0,0)))(d:0<=N/\N<=9000000):
  ge am 139 #[tW (tG ⟨Bb,0,tM⟩)] w λe w'=>e= ud (Z U (N+1))/\w.setCell ⟨Bb,0,tM⟩ (Z U (N+1))=w':=by
 have c0:=(rowAt h 0 rfl).1;have f0:=(rowAt h 0 rfl).2;have f:=aa h;have g:=zH (bk w Bb 0 _ _ (Z U (N+1)) h);clear h;go_enter func139,ntmps139;go_wp2;go_ret;exact⟨rfl,rfl⟩
section
variable {T Bb MB:bh}{lv:cG fS×bh}{P:bj (aw×aw)}{N:aw}{F:aw×aw->aw}{C:bj (bj aw)}{Y:bj (aw×aw)}{at_:aw×aw}{B:bh}{tg:bh->bh}{s:ow}
theorem yQ (w:World)(h:Wn T Bb MB lv P N F C Y at_ B tg s w)(f v:aw)(hf:bN f)(hv:bN v)(u x:cG fS)(n1 n2 c1 c2:bh)(y:cG fS):
  zP 107 #[ub #[tW (tG ⟨T,0,tM⟩),Z U f,tU u n1 c1,tU x n2 c2,.pointer y],Z U v] w (Z U (F (f,v))):=by
 obtain⟨D,hD⟩:=zE w.heap.size;obtain⟨W1,q⟩:=zE (w.alloc (uc #[tW (tG ⟨T,0,tM⟩),Z U f,tU u n1 c1,tU x n2 c2,.pointer y] 129));have z:=il q;have A:W1.heap[D]?=tG (uc #[tW (tG ⟨T,0,tM⟩),Z U f,tU u n1 c1,tU x n2 c2,.pointer y] 129 (0,0)):=by rw[<-q,<-hD];exact alloc_at _ _
 have E:=h.grow z;obtain⟨j,o⟩:=zE ((λw'=>w'=W1.drew):World->Prop);have ue:j W1.drew:=by rw[<-o]
 have t:=E.grow (aq _ _).drew;have G:∀W,j W->(nr 118 (.map (tG MB)) (ub #[Z U f,Z U v]) tR).run am W= .ok (Z U (F (f,v))) W:=λW g=>by
  rw[<-o] at g;subst g;exact t.map.look hf hv
 have J:∀W,j W->W.cell? ⟨D,0,tM⟩=tG (tW (tG ⟨T,0,tM⟩))/\W.cell? ⟨D,1,tM⟩=tG (Z U f)/\W.cell? ⟨T,2,tM⟩=tG (.map (tG MB))/\T<W.heap.size:=λW g=>by
  rw[<-o] at g;subst g;exact⟨(rowAt (W:=W1.drew) (show W1.drew.heap[D]?=_ from A) 0 rfl).1,(rowAt (W:=W1.drew) (show W1.drew.heap[D]?=_ from A) 1 rfl).1,(rowAt t.row 2 rfl).1,aa t.row⟩
 have ux:cj (∀W,j W->W=W1.drew):=λW g=>by rw[<-o] at g;exact g
 have d:=zH G;have e:=zH J;have up:=zH q;have ur:=zH z;clear h q z A E t o G J;go_enter func107,ntmps107
 go_upto_region 1 with(fail)
 rw[up.out];refine aj 10 j (by kernel_rfl) ?_;refine zT 0 rfl (λw h=>And.intro (e.out w h) (d.out w h)) ?_;(try go_simp);refine zT 1 rfl (λw h=>And.intro (e.out w h) (d.out w h)) ?_;(try go_simp);refine zT 2 rfl (λw h=>And.intro (e.out w h) (d.out w h)) ?_;(try go_simp);refine zT 3 rfl (λw h=>And.intro (e.out w h) (d.out w h)) ?_;(try go_simp);refine zT 4 rfl (λw h=>And.intro (e.out w h) (d.out w h)) ?_;(try go_simp);refine zT 5 rfl (λw h=>And.intro (e.out w h) (d.out w h)) ?_;(try go_simp);refine zT 6 rfl (λw h=>And.intro (e.out w h) (d.out w h)) ?_;(try go_simp);refine zT 7 rfl (λw h=>And.intro (e.out w h) (d.out w h)) ?_;(try go_simp);refine zT 8 rfl (λw h=>And.intro (e.out w h) (d.out w h)) ?_;(try go_simp);refine zT 9 rfl (λw h=>And.intro (e.out w h) (d.out w h)) ?_;(try go_simp);refine zK rfl λK' K=> ?_;go_simp;refine K _ _ ?_;clear K;refine⟨by kernel_rfl, ?_⟩;have R:aE w.heap.size w W1.drew:=ur.out.drew;have uv:=zH R;clear R ue;go_wp2;go_ret;exact⟨rfl,uv.out⟩
theorem kR (w:World)(h:Wn T Bb MB lv P N F C Y at_ B tg s w)(hN:0<=N/\N<=9000000)(f v:aw)(hf:bN f)(hv:bN v)(hF:0<=F (f,v)/\F (f,v)<=9000000)(A E:cG fS)(n1 n2 c1 c2:bh)(J:cG fS)(ao:cG fS)(xs:bj aw)(cap:bh)(hx:ak w ao xs)(yb:ao=tM->cap=0)(yd:cap<xs.length+2)
  (vq:(xs++[F (f,v),F (f,v)+1]).all (bL N)=tP)(An:xs.length<=70000)(hl:C.length+1<=1000000)(ye:Y.length+1<=1000000):
  ge am 106 #[ub #[tW (tG ⟨T,0,tM⟩),Z U f,tU A n1 c1,tU E n2 c2,.pointer J],Z U v,tU ao xs.length cap] w λe w'=>e= ud (.tuple #[])/\aZ T Bb MB lv P N F (C++[xs++[F (f,v),F (f,v)+1]]) (Y++[at_]) at_ B tg w w':=by
 obtain⟨D,hD⟩:=zE w.heap.size;obtain⟨W1,up⟩:=zE (w.alloc (uc #[tW (tG ⟨T,0,tM⟩),Z U f,tU A n1 c1,tU E n2 c2,.pointer J] 129));have ur:=il up;have vf:W1.heap[D]?=tG (uc #[tW (tG ⟨T,0,tM⟩),Z U f,tU A n1 c1,tU E n2 c2,.pointer J] 129 (0,0)):=by rw[<-up,<-hD];exact alloc_at _ _
 have h1:=h.grow ur;have vr:=hx.below ur;obtain⟨x,uv⟩:=zE ((λw'=>aE W1.heap.size W1 w'):World->Prop);have yi:x W1.drew:=by rw[<-uv];exact(aq _ _).drew
 have vt:∀W,x W->aE W1.heap.size W1 W:=λW o=>by rw[<-uv] at o;exact o
 have vu:∀W,aE W1.heap.size W1 W->x W:=λW o=>by rw[<-uv];exact o
 have yk:=aa vf;have vx:∀W,x W->W.cell? ⟨D,0,tM⟩=tG (tW (tG ⟨T,0,tM⟩))/\W.cell? ⟨D,1,tM⟩=tG (Z U f)/\W.cell? ⟨D,2,tM⟩=tG (tU A n1 c1)/\W.cell? ⟨D,3,tM⟩=tG (tU E n2 c2)/\W.cell? ⟨D,4,tM⟩=tG (.pointer J)/\D<W.heap.size:=λW o=>by
  have r:=((vt W o).block D yk).trans vf;exact⟨(rowAt r 0 rfl).1,(rowAt r 1 rfl).1,(rowAt r 2 rfl).1,(rowAt r 3 rfl).1,(rowAt r 4 rfl).1,aa r⟩
 have HO:cj (∀W,aE W1.heap.size W1 W->zP 107 #[ub #[tW (tG ⟨T,0,tM⟩),Z U f,tU A n1 c1,tU E n2 c2,.pointer J],Z U v] W (Z U (F (f,v)))):=λW o=>yQ W (h1.grow o) f v hf hv A E n1 n2 c1 c2 J;have t:=zH vx;have ux:=zH vu;have H1:=zH h1;have yp:=zH vr;have yq:=zH up;have vy:=zH ur;have we:=zH vq;obtain⟨i0,yr,yv,yy,yW⟩:=kB fe;obtain⟨z,hz⟩:=zE (F (f,v));rw[hz] at HO we hF⊢;have zc:dT.wrap (z+1)=z+1:=by simp[eK,eL,ep];omega
 clear h hx up ur vf h1 vr uv vt vu vx vq hz;go_enter func106,ntmps106
 go_upto_region 1 with(fail)
 rw[yq.out];refine aj 12 x (by kernel_rfl) ?_;refine zT 0 rfl t.out ?_;(try go_simp);refine zT 1 rfl t.out ?_;(try go_simp);refine zT 2 rfl t.out ?_;(try go_simp);refine zT 3 rfl t.out ?_;(try go_simp);refine zT 4 rfl t.out ?_;(try go_simp);refine zT 6 rfl t.out ?_;(try go_simp);refine zT 7 rfl t.out ?_;(try go_simp);refine zO 5 rfl λK' d=> ?_;go_simp;go_at_call 107;refine(HO.out W1.drew (aq _ _).drew).mono ?_;rintro e w5 ⟨rfl,wg⟩;have K:aE W1.heap.size W1 w5:=(aq _ _).drew.trans wg;have wj:x w5:=ux.out _ K;refine d _ _ wj ?_;clear d;(try go_simp);refine zO 8 rfl λK' d=> ?_;go_simp;go_at_call 107;refine(HO.out w5 K).mono ?_;rintro e w6 ⟨rfl,wk⟩;have vc:aE W1.heap.size W1 w6:=K.trans (wk.mono K.size);have wl:x w6:=ux.out _ vc;refine d _ _ wl ?_;clear d;(try go_simp);refine zT 9 rfl t.out ?_;(try go_simp);refine zO 10 rfl λK' d=> ?_;go_simp;obtain⟨G,hG⟩:=zE w6.heap.size;obtain⟨W8,R⟩:=zE (w6.alloc (uc #[Z U z,Z U (z+1)] 3));(try rw[hG]);(try rw[R]);have ws:=il R;have ue:aE W1.heap.size W1 W8:=vc.trans (ws.mono vc.size);have xf:W8.heap[G]?=tG (uc #[Z U z,Z U (z+1)] 3 (0,0)):=by rw[<-R,<-hG];exact alloc_at _ _
 (try rw[zc]);(try rw[R]);refine d _ _ (ux.out _ ue) ?_;clear d;(try go_simp);refine zO 11 rfl λK' d=> ?_;have vh:=yp.out.below ue;refine bO (.tmp 8) (.tmp 16) 35 rfl 3 i0 _ 1 8 gb yr yv yy yW rfl (by decide) ao xs.length cap (xs.map (eS .i64)) rfl (λh=>⟨by have:=vh;rw[h] at this;rw[this.nil_of_none];rfl,yb h⟩) (by simp) (λb hb j u hu=>by
  rw[rm] at hu;obtain⟨y,hy,rfl⟩:=ip.1 hu;obtain⟨g,At,e1,_,e3⟩:=vh (by intro e;rw[e] at hy;simp at hy);rw[hb] at e1;obtain rfl:=cE e1;rw[cY];exact e3 j y hy) ⟨G,0,tM⟩ 2 2 [Z U z,Z U (z+1)] rfl rfl (λjj uu hu=>by rw[cY,cL,bw _ _ _ _ _ _ xf];simpa using hu) (by simp[ct]) yd (by unfold eC;omega) (by omega) ?_
 intro v9 w9 vm xj;have xo:aE W8.heap.size W8 w9:=(Ext.of_grown (M:=λ_=>me) xj (λq hq=>by cases hq)).below (cg _) (λq h=>h.elim);have vd:aE W1.heap.size W1 w9:=ue.trans (xo.mono ue.size);obtain⟨vp,c9,zj⟩:=aC vm;subst zj;have xp:aL w9 W8.heap.size (tU vp (xs.length+2) c9) (xs++[z,z+1]):=by unfold aL;simpa using vm
 have xt:=xp.at_;refine d _ _ (ux.out _ vd) ?_;clear d;(try go_simp);refine zK rfl λK' d=> ?_;go_simp;have zp:cj (ge am 56 #[tW (tG ⟨T,0,tM⟩),tU vp (xs.length+2) c9] w9 λe w'=>e= ud (.tuple #[])/\aZ T Bb MB lv P N F (C++[xs++[z,z+1]]) (Y++[at_]) at_ B tg w9 w'):=by
  unfold cj;have:=jm w9 (H1.out.grow vd) hN vp (xs++[z,z+1]) c9 xt we.out (by simp;omega) hl ye;simpa using this
 have xF:aE w.heap.size w w9:=vy.out.trans (vd.mono vy.out.size);have zs:=zH xF;go_at_call 56;refine zp.out.mono ?_;rintro e Ax ⟨rfl,xT⟩;refine d _ _ ?_;clear d;refine⟨by kernel_rfl, ?_⟩;have zv:=zH (aZ.below zs.out xT);clear xT xF vm xj xo vd xp xt vh xf R ws ue wk vc wg K yi hG wj wl;go_wp2
 go_end0
 exact⟨rfl,zv.out⟩
end
structure mU (w:World)(T RB:bh)(c:dx)(b:bh->bh->bh):Prop where
 tab:∃RA,w.heap[T]?=tG (uc (ig c RA RB) 196 (0,0))
 behind:w.heap[RB]?=tG (uc (dZ c.ins.length ((c.nvars+63)/64) RB c.ins.length) 199 (0,0))
 words:∀x,x<c.ins.length->bW w (RB+1+x) ((c.nvars+63)/64) (b x)
 ltB:∀x j,b x j<18446744073709551616
 says:∀x v,x<c.ins.length->v<c.nvars->(bn (b x) v=tP↔eF c.ins v x)
theorem mU.of {w:World}{T d RB:bh}{c:dx}{a b:bh->bh->bh}(h:F8 w T d RB c a b):mU w T RB c b:=
 ⟨⟨d,h.tab.tab⟩,h.tab.behind,h.tab.words,h.ltB,λx v e f=>(h.says x v e f).1⟩
theorem mU.ext {w w':World}{T RB:bh}{c:dx}{b:bh->bh->bh}{M:bh->Prop}(h:mU w T RB c b)(d:Ext M w w')(f:¬M T)(e:∀k,RB<=k->k<=RB+c.ins.length->¬M k):mU w' T RB c b:=by
 obtain⟨g,j⟩:=h.tab;exact⟨⟨g,d.heap j f⟩,d.heap h.behind (e _ (cg _) (by omega)),λx o=>(h.words x o).ext d (e _ (by omega) (by omega)),h.ltB,h.says⟩
theorem mU.below {w w':World}{T RB:bh}{c:dx}{b:bh->bh->bh}(h:mU w T RB c b)(d:aE w.heap.size w w'):mU w' T RB c b:=
 h.ext (Ext.of_below_size (M:=λ_=>me) d) (λh=>h) (λ_ _ _ h=>h)
def InT (c:dx)(at_ v:aw):Prop:=0<=at_/\at_<(c.ins.length:aw)/\0<=v/\v<(c.nvars:aw)
instance (c:dx)(at_ v:aw):Decidable (InT c at_ v):=by unfold InT;infer_instance
theorem EI (w:World)(T RB:bh)(c:dx)(b:bh->bh->bh)(at_ v:aw)(h:mU w T RB c b):
  zS 147 #[tW (tG ⟨T,0,tM⟩),Z U at_,Z U v] w (ua (decide (InT c at_ v))):=by
 obtain⟨y,t⟩:=h.tab;have c2:=zR t 2 (tU c.varsA c.nvars c.varsC);have z:=zR t 8 (tU (tG ⟨y,0,tM⟩) c.ins.length c.ins.length);obtain⟨e,u⟩:=zE (decide (InT c at_ v));rw[u];have f:=zH u;clear h t u
 by_cases g:0<=at_
 ·by_cases j:at_<(c.ins.length:aw)
  ·by_cases o:0<=v
   ·by_cases q:v<(c.nvars:aw)
    ·have d:cj (e=tP):=by unfold cj;rw[<-f.out];exact cV ⟨g,j,o,q⟩
     go_enter pL,pj;go_wp2;go_ret;exact⟨by rw[d.out];rfl,rfl⟩
    ·have d:cj (e=tR):=by unfold cj;rw[<-f.out];exact cv (λh=>q h.2.2.2)
     have x:decide (v<(c.nvars:aw))=tR:=cv q;clear q;go_enter pL,pj;go_wp2;go_ret;exact⟨by rw[d.out];rfl,rfl⟩
   ·have d:cj (e=tR):=by unfold cj;rw[<-f.out];exact cv (λh=>o h.2.2.1)
    have x:decide (0<=v)=tR:=cv o;clear o;go_enter pL,pj;go_wp2;go_ret;exact⟨by rw[d.out];rfl,rfl⟩
  ·have d:cj (e=tR):=by unfold cj;rw[<-f.out];exact cv (λh=>j h.2.1)
   have x:decide (at_<(c.ins.length:aw))=tR:=cv j;clear j;go_enter pL,pj;go_wp2;go_ret;exact⟨by rw[d.out];rfl,rfl⟩
 ·have d:cj (e=tR):=by unfold cj;rw[<-f.out];exact cv (λh=>g h.1)
  have x:decide (0<=at_)=tR:=cv g;clear g;go_enter pL,pj;go_wp2;go_ret;exact⟨by rw[d.out];rfl,rfl⟩
theorem nW (w:World)(T RB:bh)(c:dx)(b:bh->bh->bh)(x v:bh)(h:mU w T RB c b)(d:x<c.ins.length)(q:v<c.nvars)(t:c.ins.length<=90000)(u:c.nvars<=90000):
  zS 108 #[tW (tG ⟨T,0,tM⟩),Z U (x:aw),Z U (v:aw)] w (ua (bn (b x) v)):=by
 have f:=EI w T RB c b x v h;rw[cV (show InT c x v from⟨by omega,by omega,by omega,by omega⟩)] at f;have j:=zH f;obtain⟨y,g⟩:=h.tab;have z:=zR g 9 (tU (tG ⟨RB,0,tM⟩) c.ins.length c.ins.length);have c9:w.cell? ⟨RB,x,tM⟩=tG (tU (tG ⟨RB+1+x,0,tM⟩) ((c.nvars+63)/64) ((c.nvars+63)/64)):=by
  rw[bw _ _ _ _ _ _ h.behind,eG _ _ _ d,cI d]
 have o:=zH (yH w (RB+1+x) ((c.nvars+63)/64) ((c.nvars+63)/64) v (b x) (h.words x d) (λi=>h.ltB x i) (by omega) (by omega));have A:(x:aw)<(c.ins.length:aw):=by omega
 clear f h g;go_enter func108,ntmps108
 go_wp2_with (first|(go_at_call 147;refine j.out.mono ?_;rintro e w2 ⟨rfl,rfl⟩)|(go_at_call 148;refine o.out.mono ?_;rintro e E ⟨rfl,rfl⟩))
 go_ret;exact⟨rfl,rfl⟩
structure C9 (w:World)(TT RB:bh)(c:dx)(b:bh->bh->bh)(tg:bh->bh)(hi:bh):Prop where
 tab:mU w TT RB c b
 lt1:TT<hi
 lt2:RB+c.ins.length<hi
 lt3:hi<=w.heap.size
 z1:tg TT=0
 z2:∀k,RB<=k->k<hi->tg k=0
structure As (T Bb MB:bh)(lv:cG fS×bh)(P:bj (aw×aw))(N:aw)(F:aw×aw->aw)(C:bj (bj aw))(Y:bj (aw×aw))(at_:aw×aw)(B:bh)(tg:bh->bh)(s:ow)(w0:World)(TT RB:bh)(c:dx)(b:bh->bh->bh)(hi:bh)(w:World):Prop where
 wn:Wn T Bb MB lv P N F C Y at_ B tg s w
 tz:C9 w TT RB c b tg hi
 lo:aE B w0 w
 hB:w0.heap.size=B
section
variable {T Bb MB:bh}{lv:cG fS×bh}{P:bj (aw×aw)}{N:aw}{F:aw×aw->aw}{C C2:bj (bj aw)}{Y Y2:bj (aw×aw)}{at_ at2:aw×aw}{B:bh}{tg:bh->bh}{s:ow}{w0 w w':World}{TT RB hi:bh}{c:dx}{b:bh->bh->bh}
theorem C9.grow (h:C9 w TT RB c b tg hi)(d:aE w.heap.size w w'):C9 w' TT RB c b tg hi:=⟨h.tab.below d,h.lt1,h.lt2,eJ h.lt3 d.size,h.z1,h.z2⟩
theorem C9.mv {d:bh->bh}(h:C9 w TT RB c b tg hi)(g:Ext (λq=>tg q≠0) w w')(j:∀k,d k≠0->tg k≠0\/w.heap.size<=k):C9 w' TT RB c b d hi:=by
 have u:=h.lt3;have v:=h.lt1;have x:=h.lt2;refine⟨h.tab.ext g (λe=>e h.z1) (λk f o e=>e (h.z2 k f (by omega))),h.lt1,h.lt2,eJ h.lt3 g.size, ?_,λk f o=> ?_⟩
 ·cases t:d TT with
  |zero=>rfl
  |succ q=>
   rcases j TT (by omega) with e|e
   ·exact fL h.z1 e
   ·omega
 ·cases t:d k with
  |zero=>rfl
  |succ q=>
   rcases j k (by omega) with e|e
   ·exact fL (h.z2 k f o) e
   ·omega
theorem As.grow (h:As T Bb MB lv P N F C Y at_ B tg s w0 TT RB c b hi w)(d:aE w.heap.size w w'):As T Bb MB lv P N F C Y at_ B tg s w0 TT RB c b hi w':=
 ⟨h.wn.grow d,h.tz.grow d,h.lo.trans (d.mono (by have:=(h.wn.lo T (by rw[h.wn.t1];decide));omega)),h.hB⟩
theorem As.mv (h:As T Bb MB lv P N F C Y at_ B tg s w0 TT RB c b hi w)(j:aZ T Bb MB lv P N F C2 Y2 at2 B tg w w'):∃d e,As T Bb MB lv P N F C2 Y2 at2 B d e w0 TT RB c b hi w'/\Ext (λq=>tg q≠0) w w'/\(∀k,d k≠0->tg k≠0\/w.heap.size<=k)/\∀k,tg k≠0->d k=tg k:=by
 obtain⟨d,e,o,f,g,t⟩:=j;exact⟨d,e,⟨o,h.tz.mv f g,h.lo.trans (f.below (by have:=(h.wn.lo T (by rw[h.wn.t1];decide));omega) (λq u=>(h.wn.lo q u).1)),h.hB⟩,f,g,t⟩
theorem As.ints (h:As T Bb MB lv P N F C Y at_ B tg s w0 TT RB c b hi w){ao:cG fS}{xs:bj aw}(d:ak w0 ao xs):ak w ao xs:=d.below (by rw[h.hB];exact h.lo)
theorem qi {d:bh->bh}{f:World}(g:Ext (λq=>tg q≠0) w f)(j:∀k,d k≠0->tg k≠0\/w.heap.size<=k)(o:∀k,tg k≠0->d k=tg k)(h:aZ T Bb MB lv P N F C2 Y2 at2 B d f w'):aZ T Bb MB lv P N F C2 Y2 at2 B tg w w':=by
 obtain⟨t,u,v,x,y,z⟩:=h;refine⟨t,u,v,g.trans x (λq A=>j q A),λk e=> ?_,λk e=> ?_⟩
 ·rcases y k e with h|h
  ·exact j k h
  ·exact .inr (eJ g.size h)
 ·have:=o k e
  rw[z k (by omega),this]
end
theorem l9 {f:bh->mm}{j:bh}(d:∀k,k<j->f k=tR)(g:f j=tR):∀k,k<j+1->f k=tR:=λk h=>by
 by_cases e:k=j
 ·rw[e];exact g
 ·exact d k (by omega)
section
variable {T Bb MB:bh}{lv:cG fS×bh}{P:bj (aw×aw)}{N:aw}{F:aw×aw->aw}{C:bj (bj aw)}{Y:bj (aw×aw)}{at_:aw×aw}{B:bh}{tg:bh->bh}{s:ow}{w0:World}{TT RB hi:bh}{c:dx}{b:bh->bh->bh}
def bg (b:bh->bh->bh)(k:bh)(v:aw):mm:=bn (b k) v.toNat
theorem Bf (w:World)(h:As T Bb MB lv P N F C Y at_ B tg s w0 TT RB c b hi w)(f:aw)(a1 a2:cG fS)(n1 n2 c1 c2:bh)(i:Ins)(K:cG fS)(gc:bh)(vc:i.argsV= tU K i.args.length gc)(vp:∃ao n cap,i.modeV= tU ao n cap)(vd:ak w0 K i.args)(vq:i.args.length<=40)
  (n:bh)(v:aw)(u:i.args[n]?=tG v)(k:bh)(hk:k<c.ins.length)(hv:isVar c.nvars v=tP)(vr:c.ins.length<=90000)(vt:c.nvars<=90000):
  zP 195 #[ub #[tW (tG ⟨T,0,tM⟩),Z U f,tU a1 n1 c1,tU a2 n2 c2,tW (tG ⟨TT,0,tM⟩)],ub i.cells,Z U (n:aw),Z U (k:aw)] w (ua (dE (bg b k) i.d i.args n v)):=by
 obtain⟨o,rfl⟩:∃o:bh,v=(o:aw):=⟨v.toNat,by have:=(bP.1 hv).1;omega⟩
 have vu:o<c.nvars:=by have:=(bP.1 hv).2;omega
 obtain⟨D,R⟩:=zE w.heap.size;obtain⟨W1,x⟩:=zE ((w.alloc (uc #[tW (tG ⟨T,0,tM⟩),Z U f,tU a1 n1 c1,tU a2 n2 c2,tW (tG ⟨TT,0,tM⟩)] 129)).alloc (uc i.cells 42));have ue:=E8 x;have vf:=vY x R;have G:=zl x R;have vx:W1.heap.size=D+2:=by rw[<-x];simp[R]
 have h1:=h.grow ue;have up:=h1.ints vd;obtain⟨mo,mn,mc,vh⟩:=vp;obtain⟨op,d,a,bb,ff,nn,ws,argsV,modeV,xf,xj,ln,cl,args⟩:=i;simp only at vc vh u vq up⊢;subst vc vh;simp only[Ins.cells] at x G⊢;have q7:W1.cell? ⟨D+1,7,tM⟩=tG (tU K args.length gc):=(rowAt G 7 rfl).1;have q1:W1.cell? ⟨D+1,1,tM⟩=tG (Z U d):=(rowAt G 1 rfl).1;have p4:W1.cell? ⟨D,4,tM⟩=tG (tW (tG ⟨TT,0,tM⟩)):=(rowAt vf 4 rfl).1;have vy:args≠[]:=by intro e;rw[e] at u;simp at u
 obtain⟨g,we,rfl,hg,ur⟩:=up vy;have e1:=ur n _ u;have xo:n<args.length:=(bl.1 u).1;have xp:(n:aw)<(args.length:aw):=by omega
 have wg:=zH (nW W1 TT RB c b k o h1.tz.tab hk vu vr vt);have uv:cj (dE (bg b k) d args n (o:aw)=(((du args.length).any λj=>decide (j≠n)&&args.getD j 0==(o:aw))||(decide ((o:aw)≠d)&&bn (b k) o))):=by unfold cj dE bg;simp
 have wj:cj (∀(i:bh)(z:aw),args[i]?=tG z->W1.cell? ⟨g,we+i,tM⟩=tG (Z U z)):=ur;have wk:=zH x;have ux:=zH ue;have HN:=zH u;have xt:D+1<W1.heap.size:=by omega
 clear h x ue vf G vx h1 up vd ur u;go_enter func195,ntmps195
 go_upto_region 1 with(fail)
 rw[wk.out]
 go_upto_region 3 with(fail)
 go_loopw [20] (λkk wr=>∃j:bh,j<=args.length/\kk= Z U (j:aw)/\(∀q,q<j->(decide (q≠n)&&args.getD q 0==(o:aw))=tR)/\wr=W1) (λkk _=>args.length-(de kk).toNat)
 case atStart=>exact⟨0,cN _,rfl,λq hq=>by omega,rfl⟩
 case round=>
  obtain⟨j,hj,rfl,hz,rfl⟩:=hrel;have HZ:=zH hz;clear hz
  by_cases vm:j<args.length
  ·obtain⟨y,hy⟩:∃y,args[j]?=tG y:=⟨_,ap vm⟩
   have ey:=wj.out j y hy;have xF:(j:aw)<(args.length:aw):=by omega
   have HY:cj (args.getD j 0=y):=by unfold cj;rw[ox,hy];rfl
   clear hy
   by_cases A:j=n
   ·have t1:((j:aw)==(n:aw))=tP:=by rw[A];exact iS _
    have t2:((j:aw) != (n:aw))=tR:=by rw[bne,t1];rfl
    have t:cj ((decide (j≠n)&&args.getD j 0==(o:aw))=tR):=by unfold cj;rw[cv (λh=>h A)];rfl
    have xT:=zH A;clear A;go_wp2;go_roundw
    case rel=>exact⟨j+1,by omega,by go_num,l9 HZ.out t.out,by first|rfl|trivial⟩
    case measure=>simp[de];omega
   ·have t1:((j:aw)==(n:aw))=tR:=ef (by omega)
    have t2:((j:aw) != (n:aw))=tP:=by rw[bne,t1];rfl
    by_cases J:y=(o:aw)
    ·have t3:(y==(o:aw))=tP:=by rw[J];exact iS _
     have t:cj (((du args.length).any λj=>decide (j≠n)&&args.getD j 0==(o:aw))=tP):=by
      unfold cj;rw[kh];exact⟨j,by rw[oc];exact vm,by rw[cV A,HY.out,t3];rfl⟩
     clear J A;go_wp2;go_ret;exact⟨by rw[uv.out,t.out];rfl,ux.out⟩
    ·have t3:(y==(o:aw))=tR:=ef J
     have t:cj ((decide (j≠n)&&args.getD j 0==(o:aw))=tR):=by unfold cj;rw[HY.out,t3,Bool.and_false]
     clear J A;go_wp2;go_roundw
     case rel=>exact⟨j+1,by omega,by go_num,l9 HZ.out t.out,by first|rfl|trivial⟩
     case measure=>simp[de];omega
  ·have wl:j=args.length:=by omega
   have t:cj (((du args.length).any λj=>decide (j≠n)&&args.getD j 0==(o:aw))=tR):=by
    unfold cj;rw[lx];intro q hq;rw[oc] at hq;rw[HZ.out q (by omega)];simp
   clear wl
   by_cases E:(o:aw)=d
   ·have t1:((o:aw)==d)=tP:=by rw[E];exact iS _
    have t2:((o:aw) != d)=tR:=by rw[bne,t1];rfl
    have HV:cj ((decide ((o:aw)≠d)&&bn (b k) o)=tR):=by unfold cj;rw[cv (λh=>h E)];rfl
    clear E;go_wp2;go_ret;exact⟨by rw[uv.out,t.out,HV.out];rfl,ux.out⟩
   ·have t1:((o:aw)==d)=tR:=ef E
    have t2:((o:aw) != d)=tP:=by rw[bne,t1];rfl
    have HV:cj ((decide ((o:aw)≠d)&&bn (b k) o)=bn (b k) o):=by unfold cj;rw[cV E];rfl
    clear E
    go_wp2_with (go_at_call 108;refine wg.out.mono ?_;rintro e w2 ⟨rfl,rfl⟩)
    go_ret;exact⟨by rw[uv.out,t.out,HV.out];rfl,ux.out⟩
end
end Go.Proofs.YtjomgckjhcfbgaaGreat
