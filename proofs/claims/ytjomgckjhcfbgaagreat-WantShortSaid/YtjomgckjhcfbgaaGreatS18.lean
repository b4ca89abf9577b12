/- Walks. -/
import Derived.Maps.OwnOps
import Derived.Maps.Views
import Derived.DeepKeys4
import Derived.Test.YtjomgckjhcfbgaaGreatS6
import Derived.Test.YtjomgckjhcfbgaaGreatS17
set_option maxRecDepth 100000
set_option maxHeartbeats 64000000
set_option linter.all false
namespace Go.Proofs.YtjomgckjhcfbgaaGreat
open Go.RowKit
open _root_.List renaming getElem?_eq_getElem→GN,getElem?_eq_some_iff→GQ,mem_of_getElem?→GV,take_length→Ha,mem_singleton→Hq
open _root_.Nat renaming lt_of_lt_of_le→Hd,le_refl→He,zero_add→Hf,zero_le→Hg
open _root_.Option renaming some.inj→Hl
open _root_.Int renaming toNat_natCast→Ho
open Go.World renaming size_alloc→Hu
open Go.RowKit.Below renaming refl→Hw
open Go renaming heap_setCell_same→Hz,World→H5
open Go.RowKit renaming Below→H9,Hid→Ia
open Tryz
theorem kX {α:Type}{f:α→Int}:∀{l:List α},aP f l=0→∀x∈l,f x=0
 |[],_,x,hx=>absurd hx (by simp)
 |y::r,h,x,hx=>by
  unfold aP at h
  by_cases hy:f y=0
  ·rw[if_pos hy] at h
   rcases List.mem_cons.1 hx with e|e
   ·rw[e];exact hy
   ·exact kX h x e
  ·rw[if_neg hy] at h;exact absurd h hy
theorem gI {b:Bool}{f:Int}(hf:f≠0)(h:bM b f=0):b=true:=by
 unfold bM at h;cases b with
 |true=>rfl
 |false=>rw[if_neg (by simp)] at h;exact absurd h hf
theorem bO {n:Nat}{v:Int}:isVar n v=true↔0≤v∧v<(n:Int):=by
 unfold isVar;simp
theorem gX {m:Mo}(h:gF m=0):m.fs.length≤60∧m.ss.length≤30∧di m=false∧(bN m).all m.known=true∧(∀g∈m.fs,codeF m g=0)∧0≤m.fnIx dB:=by
 unfold gF at h
 by_cases h1:30<m.ss.length∨60<m.fs.length
 ·rw[if_pos h1] at h;exact absurd h (by decide)
 ·rw[if_neg h1] at h
  by_cases h2:di m=true
  ·rw[if_pos h2] at h;exact absurd h (by decide)
  ·rw[if_neg h2] at h
   by_cases h3:(bN m).all m.known=false
   ·rw[if_pos h3] at h;exact absurd h (by decide)
   ·rw[if_neg h3] at h
    by_cases h4:aP (codeF m) m.fs≠0
    ·rw[if_pos h4] at h;exact absurd h h4
    ·rw[if_neg h4] at h
     have h5:=gI (by decide) h;rw[Bool.and_eq_true,decide_eq_true_eq] at h5;exact⟨by omega,by omega,by simpa using h2,by simpa using h3,kX (Classical.byContradiction h4),h5.1⟩
theorem ku {m:Mo}{g:Fn}(h:codeF m g=0):g.vs.length≤300∧1≤g.c.ins.length∧g.c.ins.length≤3000∧0≤g.c.par∧g.c.par≤(g.vs.length:Int)∧(∀i∈g.c.ins,aC m g i=0):=by
 unfold codeF at h
 by_cases h1:300<g.vs.length∨g.c.ins.length<1∨3000<g.c.ins.length
 ·rw[if_pos h1] at h;exact absurd h (by decide)
 ·rw[if_neg h1] at h
  by_cases h2:g.c.par<0∨(g.vs.length:Int)<g.c.par
  ·rw[if_pos h2] at h;exact absurd h (by decide)
  ·rw[if_neg h2] at h
   by_cases h3:aP (aC m g) g.c.ins≠0
   ·rw[if_pos h3] at h;exact absurd h h3
   ·exact⟨by omega,by omega,by omega,by omega,by omega,kX (Classical.byContradiction h3)⟩
theorem jy {m:Mo}{g:Fn}{i:Ins}(h:aC m g i=0):1≤i.op∧i.op≤18∧(∀v∈readsOf i,isVar g.vs.length v=true)∧(pV i.op=true→isVar g.vs.length i.d=true)∧(i.op=15→gU m g.vs i=0):=by
 unfold aC at h
 by_cases h1:i.op<1∨18<i.op
 ·rw[if_pos h1] at h;exact absurd h (by decide)
 ·rw[if_neg h1] at h
  by_cases h2:aI g.vs.length (readsOf i++(if pV i.op then[i.d] else[]))=false
  ·rw[if_pos h2] at h;exact absurd h (by decide)
  ·rw[if_neg h2] at h
   have h3:aI g.vs.length (readsOf i++(if pV i.op then[i.d] else[]))=true:=by simpa using h2
   unfold aI at h3;rw[List.all_append,Bool.and_eq_true,List.all_eq_true] at h3;refine⟨by omega,by omega,h3.1,fun hd=> ?_,fun hop=> ?_⟩
   ·have h4:=h3.2
    rw[hd] at h4;simpa using h4
   ·rw[if_pos hop] at h;exact h
theorem Bp {m:Mo}{vs:List Vr}{i:Ins}(h:gU m vs i=0):0≤i.f∧∃g,m.fs[i.f.toNat]?=some g∧(i.args.length:Int)=g.c.par∧g.c.par≤(g.vs.length:Int)∧ig vs g.vs 0 i.args=true∧ax vs i.d=g.ret:=by
 unfold gU at h
 by_cases h1:i.f<0
 ·rw[if_pos h1] at h;exact absurd h (by decide)
 ·rw[if_neg h1] at h
  cases hg:m.fs[i.f.toNat]? with
  |none=>rw[hg] at h;exact absurd h (by simp)
  |some g=>
   rw[hg] at h;simp only at h
   by_cases h2:(i.args.length:Int)≠g.c.par∨(g.vs.length:Int)<g.c.par
   ·rw[if_pos h2] at h;exact absurd h (by decide)
   ·rw[if_neg h2] at h
    by_cases h3:ig vs g.vs 0 i.args=false
    ·rw[if_pos h3] at h;exact absurd h (by decide)
    ·rw[if_neg h3] at h
     have h4:=gI (by decide) h;exact⟨by omega,g,rfl,by omega,by omega,by simpa using h3,by simpa using h4⟩
def bE (f:Int):Nat→List Vr→List (Int×Int)
 |_,[]=>[]
 |v,x::r=>(if x.ptr=true then[(f,(v:Int))] else[])++bE f (v+1) r
def cO (f:Int)(g:Fn):List (Int×Int):=bE f 0 g.vs++(if g.c.rp=true then[(f,-1)] else[])
def bU:Nat→List Fn→List (Int×Int)
 |_,[]=>[]
 |f,g::r=>cO f g++bU (f+1) r
def Mo.ptrs (m:Mo):List (Int×Int):=bU 0 m.fs
def aM:Nat→List (Int×Int)→Int×Int→Int
 |_,[],_=>0
 |k,p::r,x=>if p=x then 2*(k:Int)+1 else aM (k+1) r x
theorem oI {x:Int×Int}:∀{P:List (Int×Int)}{k:Nat},x∈P→2*(k:Int)+1≤aM k P x∧aM k P x+1≤2*((k:Int)+(P.length:Int))
 |[],_,h=>absurd h (by simp)
 |p::r,k,h=>by
  unfold aM
  by_cases hp:p=x
  ·rw[if_pos hp,List.length_cons];omega
  ·rw[if_neg hp,List.length_cons]
   have:=oI (P:=r) (k:=k+1) (by rcases List.mem_cons.1 h with e|e;exact absurd e.symm hp;exact e);omega
theorem oJ {x:Int×Int}:∀{P:List (Int×Int)}{k:Nat},x∉P→aM k P x=0
 |[],_,_=>rfl
 |p::r,k,h=>by
  unfold aM;rw[if_neg (fun e=>h (by rw[e];simp))];exact oJ (fun hr=>h (by simp[hr]))
theorem zw {x:Int×Int}:∀{P:List (Int×Int)}{k i:Nat},P.Nodup→P[i]?=some x→aM k P x=2*((k+i:Nat):Int)+1
 |[],_,i,_,h=>by simp at h
 |p::r,k,i,hn,h=>by
  obtain⟨h1,h2⟩:=List.nodup_cons.1 hn;unfold aM;cases i with
  |zero=>
   obtain rfl:p=x:=by simpa using h
   rw[if_pos rfl];omega
  |succ i=>
   have hx:r[i]?=some x:=by simpa using h
   rw[if_neg (fun e=>h1 (by rw[e];exact GV hx)),zw h2 hx];omega
theorem gJ {f:Int}{x:Int×Int}:∀{l:List Vr}{v:Nat},x∈bE f v l↔∃(k:Nat) (y:Vr),l[k]?=some y∧y.ptr=true∧x=(f,((v+k:Nat):Int))
 |[],v=>by simp[bE]
 |y::r,v=>by
  unfold bE;rw[List.mem_append,gJ];constructor
  ·rintro(h|⟨k,z,h1,h2,h3⟩)
   ·by_cases hy:y.ptr=true
    ·rw[if_pos hy,Hq] at h
     exact⟨0,y,rfl,hy,by rw[h];rfl⟩
    ·rw[if_neg hy] at h;exact absurd h (by simp)
   ·exact⟨k+1,z,by simpa using h1,h2,by rw[h3];congr 2;omega⟩
  ·rintro⟨k,z,h1,h2,h3⟩
   cases k with
   |zero=>
    obtain rfl:y=z:=by simpa using h1
    exact .inl (by rw[if_pos h2,h3];simp)
   |succ k=>exact .inr ⟨k,z,by simpa using h1,h2,by rw[h3];congr 2;omega⟩
theorem iN {x:Int×Int}:∀{l:List Fn}{f:Nat},x∈bU f l↔∃(k:Nat) (g:Fn),l[k]?=some g∧x∈cO ((f+k:Nat):Int) g
 |[],f=>by simp[bU]
 |g::r,f=>by
  unfold bU;rw[List.mem_append,iN];constructor
  ·rintro(h|⟨k,z,h1,h2⟩)
   ·exact⟨0,g,rfl,h⟩
   ·exact⟨k+1,z,by simpa using h1,by rw[show f+(k+1)=f+1+k by omega];exact h2⟩
  ·rintro⟨k,z,h1,h2⟩
   cases k with
   |zero=>
    obtain rfl:g=z:=by simpa using h1
    exact .inl h2
   |succ k=>exact .inr ⟨k,z,by simpa using h1,by rw[show f+1+k=f+(k+1) by omega];exact h2⟩
theorem eF {m:Mo}{f:Nat}{g:Fn}(hg:m.fs[f]?=some g){v:Int}(hv:isVar g.vs.length v=true)(hp:(ax g.vs v).1=true):((f:Int),v)∈m.ptrs:=by
 obtain⟨h1,h2⟩:=bO.1 hv;unfold Mo.ptrs;rw[iN];refine⟨f,g,hg, ?_⟩;unfold cO;rw[List.mem_append,gJ];obtain⟨n,rfl⟩:∃n:Nat,v=(n:Int):=⟨v.toNat,by omega⟩
 obtain⟨y,hy⟩:∃y,g.vs[n]?=some y:=⟨_,GN (by omega)⟩
 refine .inl ⟨n,y,hy, ?_,by rw[Hf,Hf]⟩;unfold ax at hp;rw[Ho,hy] at hp;exact hp
theorem Ei {m:Mo}{f:Nat}{g:Fn}(hg:m.fs[f]?=some g)(hp:g.ret.1=true):((f:Int),(-1:Int))∈m.ptrs:=by
 unfold Mo.ptrs;rw[iN];refine⟨f,g,hg, ?_⟩;unfold cO;rw[if_pos (show g.c.rp=true from hp),List.mem_append,Hf];exact .inr (by simp)
theorem qj {m:Mo}{f v:Int}(h:(f,v)∈m.ptrs):∃(k:Nat) (g:Fn),m.fs[k]?=some g∧f=(k:Int)∧((v= -1∧g.ret.1=true)∨(isVar g.vs.length v=true∧(ax g.vs v).1=true)):=by
 unfold Mo.ptrs at h;rw[iN] at h;obtain⟨k,g,hg,h⟩:=h;rw[Hf] at h;unfold cO at h;rw[List.mem_append,gJ] at h;refine⟨k,g,hg, ?_⟩;rcases h with⟨j,y,h1,h2,h3⟩|h
 ·rw[Hf] at h3
  obtain⟨rfl,rfl⟩:=Prod.mk.inj h3;refine⟨rfl,.inr ⟨bO.2 ⟨by omega,by have:=(GQ.1 h1).1;omega⟩, ?_⟩⟩;unfold ax;rw[Ho,h1];exact h2
 ·by_cases hr:g.c.rp=true
  ·rw[if_pos hr,Hq] at h
   obtain⟨rfl,rfl⟩:=Prod.mk.inj h;exact⟨rfl,.inl ⟨rfl,hr⟩⟩
  ·rw[if_neg hr] at h;exact absurd h (by simp)
def lL (o:Int→Int)(p:Int)(again:Bool)(a:Int):List (List Int):=
 if p=0 then[] else[[-p,o a]]++(if again=true then[[-p]] else[])++[[-(p+1),o a,o a+1]]
def eG (beh:Int→Bool)(d:Int)(args:List Int)(n:Nat)(a:Int):Bool:=((List.range args.length).any fun j=>decide (j≠n)&&args.getD j 0==a)||(decide (a≠d)&&beh a)
def mh (P:List (Int×Int))(o:Int→Int)(beh:Int→Bool)(i:Ins):Nat→List Int→List (List Int)
 |_,[]=>[]
 |n,a::r=>lL o (aM 0 P (i.f,(n:Int))) (eG beh i.d i.args n a) a++mh P o beh i (n+1) r
def gB (P:List (Int×Int))(f:Int)(beh:Int→Bool)(i:Ins):List (List Int):=
 let o:Int→Int:=fun v=>aM 0 P (f,v)
 if i.op=12 then[[o i.d]]
 else if i.op=13 then[[o i.a]]
 else if i.op=9 then[[-(o i.d),o i.a]]++(if i.a≠i.d∧beh i.a=true then[[-(o i.d)]] else[])++[[-(o i.d+1),o i.a,o i.a+1]]
 else if i.op=10 then[[-(o i.d),o i.a,o i.a+1],[-(o i.d+1),o i.a,o i.a+1]]
 else if i.op=8 then[[o i.a,o i.a+1]]
 else if i.op=11 then[[o i.b],[o i.a,o i.a+1]]++(if beh i.b=true then[[-(o i.b)]] else[])
 else if i.op=15 then mh P o beh i 0 i.args++(if 0<o i.d then[[-(o i.d),aM 0 P (i.f,-1)],[o i.d,-(aM 0 P (i.f,-1))],[-(o i.d+1),aM 0 P (i.f,-1)+1],[o i.d+1,-(aM 0 P (i.f,-1)+1)]] else[])
 else if i.op=18 then(if o (-1)=0 then[] else[[-(o (-1)),o i.a],[o (-1),-(o i.a)],[-(o (-1)+1),o i.a+1]])
 else[]
def gD (N:Int)(x:Int):Prop:=x≠0∧x≤N∧-N≤x
def xB (N:Int)(c:List Int):Prop:=1≤c.length∧c.length≤3∧∀x∈c,gD N x
section
variable {N a b:Int}
theorem uZ (h:gD N a):xB N [a]:=⟨by simp,by simp,fun x hx=>by rw[Hq] at hx;rw[hx];exact h⟩
theorem jA (h:gD N a)(h2:gD N b):xB N [a,b]:=⟨by simp,by simp,fun x hx=>by rcases List.mem_cons.1 hx with e|hx;rw[e];exact h;rw[Hq] at hx;rw[hx];exact h2⟩
theorem BU {c:Int}(h:gD N a)(h2:gD N b)(h3:gD N c):xB N [a,b,c]:=⟨by simp,by simp,fun x hx=>by rcases List.mem_cons.1 hx with e|hx;rw[e];exact h;exact(jA h2 h3).2.2 x hx⟩
theorem bW {P:List (Int×Int)}{x:Int×Int}(h:x∈P):gD (2*(P.length:Int)) (aM 0 P x)∧gD (2*(P.length:Int)) (-(aM 0 P x))∧gD (2*(P.length:Int)) (aM 0 P x+1)∧gD (2*(P.length:Int)) (-(aM 0 P x+1)):=by
 have:=oI (k:=0) h;unfold gD;omega
end
theorem nT {P:List (Int×Int)}{x:Int×Int}(h:aM 0 P x≠0):x∈P:=Classical.byContradiction fun hn=>h (oJ hn)
theorem zx {vs gs:List Vr}:∀{l:List Int}{k n:Nat}{a:Int},ig vs gs k l=true→l[n]?=some a→ax vs a=ax gs ((k+n:Nat):Int)
 |[],_,_,_,_,h=>by simp at h
 |x::r,k,n,a,h,hn=>by
  unfold ig at h;rw[Bool.and_eq_true] at h;cases n with
  |zero=>
   obtain rfl:x=a:=by simpa using hn
   exact eq_of_beq h.1
  |succ n=>
   have:=zx (k:=k+1) (n:=n) h.2 (by simpa using hn);rw[this];congr 2;omega
theorem mJ {m:Mo}{vs:List Vr}{i:Ins}{o:Int}{ptr:Bool}(h:cu m vs i o ptr=0):(ax vs i.a).1=true∧(ax vs o).1=ptr:=by
 unfold cu at h
 by_cases h1:(aH m vs i.a i.f).2≠0
 ·rw[if_pos h1] at h;exact absurd h h1
 ·rw[if_neg h1] at h
  have h2:=gI (by decide) h;rw[Bool.and_eq_true] at h2;refine⟨?_, ?_⟩
  ·unfold aH at h1
   cases hp:(ax vs i.a).1 with
   |true=>rfl
   |false=>rw[if_pos hp] at h1;exact absurd (by decide) h1
  ·rw[←eq_of_beq h2.1];exact eq_of_beq h2.2
theorem zy {m:Mo}{g:Fn}{i:Ins}(h:aC m g i=0):
  (i.op=12→(ax g.vs i.d).1=true)∧(i.op=13→(ax g.vs i.a).1=true)∧(i.op=9→(ax g.vs i.a).1=true∧(ax g.vs i.d).1=true)∧
  (i.op=10→(ax g.vs i.a).1=true∧(ax g.vs i.d).1=true)∧(i.op=8→(ax g.vs i.a).1=true)∧(i.op=11→(ax g.vs i.a).1=true∧(ax g.vs i.b).1=true)∧(i.op=18→ax g.vs i.a=g.ret):=by
 obtain⟨o1,o2,_⟩:=jy h;unfold aC at h;rw[if_neg (by omega)] at h
 by_cases h2:aI g.vs.length (readsOf i++(if pV i.op then[i.d] else[]))=false
 ·rw[if_pos h2] at h;exact absurd h (by decide)
 rw[if_neg h2] at h;refine⟨fun e=> ?_,fun e=> ?_,fun e=> ?_,fun e=> ?_,fun e=> ?_,fun e=> ?_,fun e=> ?_⟩
 ·rw[if_neg (by omega),if_neg (by omega),if_neg (by omega),if_neg (by omega)] at h
  unfold au at h;rw[if_neg (by omega),if_neg (by omega),if_neg (by omega),if_neg (by omega),if_neg (by omega),if_neg (by omega),if_neg (by omega),if_neg (by omega),if_neg (by omega),if_neg (by omega)] at h
  by_cases hf:i.f<0
  ·rw[if_pos hf] at h;exact absurd h (by decide)
  rw[if_neg hf] at h;cases hs:m.ss[i.f.toNat]? with
  |none=>rw[hs] at h;exact absurd h (by simp)
  |some s=>
   rw[hs] at h;have h3:=gI (by decide) h;rw[eq_of_beq h3]
 ·rw[if_neg (by omega),if_neg (by omega),if_neg (by omega),if_neg (by omega)] at h
  unfold au at h;rw[if_neg (by omega),if_neg (by omega),if_neg (by omega),if_neg (by omega),if_neg (by omega),if_pos e] at h;exact gI (by decide) h
 ·rw[if_neg (by omega),if_neg (by omega),if_neg (by omega),if_neg (by omega)] at h
  unfold au at h;rw[if_neg (by omega),if_neg (by omega),if_neg (by omega),if_neg (by omega),if_neg (by omega),if_neg (by omega),if_neg (by omega),if_pos e] at h;have h3:=gI (by decide) h;rw[Bool.and_eq_true] at h3;exact⟨h3.1,by rw[←eq_of_beq h3.2];exact h3.1⟩
 ·rw[if_neg (by omega),if_neg (by omega),if_neg (by omega),if_neg (by omega)] at h
  unfold au at h;rw[if_neg (by omega),if_neg (by omega),if_neg (by omega),if_neg (by omega),if_neg (by omega),if_neg (by omega),if_neg (by omega),if_neg (by omega),if_pos (.inr e)] at h;have:=mJ h;rw[decide_eq_true e] at this;exact this
 ·rw[if_neg (by omega),if_neg (by omega),if_neg (by omega),if_neg (by omega)] at h
  unfold au at h;rw[if_neg (by omega),if_neg (by omega),if_neg (by omega),if_neg (by omega),if_neg (by omega),if_neg (by omega),if_neg (by omega),if_neg (by omega),if_neg (by omega),if_pos (.inl e)] at h;exact(mJ h).1
 ·rw[if_neg (by omega),if_neg (by omega),if_neg (by omega),if_neg (by omega)] at h
  unfold au at h;rw[if_neg (by omega),if_neg (by omega),if_neg (by omega),if_neg (by omega),if_neg (by omega),if_neg (by omega),if_neg (by omega),if_neg (by omega),if_neg (by omega),if_pos (.inr e)] at h;have:=mJ h;rw[decide_eq_true e] at this;exact this
 ·rw[if_neg (by omega),if_neg (by omega),if_neg (by omega),if_pos e] at h
  exact eq_of_beq (gI (by decide) h)
theorem Fe {P:List (Int×Int)}{f p a:Int}{again:Bool}(hp:p≠0→gD (2*(P.length:Int)) (-p)∧gD (2*(P.length:Int)) (-(p+1)))(ha:p≠0→(f,a)∈P):∀c∈lL (fun v=>aM 0 P (f,v)) p again a,xB (2*(P.length:Int)) c:=by
 unfold lL
 by_cases h:p=0
 ·rw[if_pos h];simp
 ·rw[if_neg h]
  obtain⟨h1,h2⟩:=hp h;obtain⟨a1,a2,a3,a4⟩:=bW (ha h);intro c hc;rw[List.mem_append,List.mem_append,Hq,Hq] at hc;rcases hc with(rfl|hc)|rfl
  ·exact jA h1 a1
  ·cases again with
   |true=>rw[if_pos rfl,Hq] at hc;rw[hc];exact uZ h1
   |false=>rw[if_neg (by simp)] at hc;exact absurd hc (by simp)
  ·exact BU h2 a1 a3
theorem zz {P:List (Int×Int)}{f:Int}{beh:Int→Bool}{i:Ins}:∀{l:List Int}{n:Nat},(∀(j:Nat)(a:Int),l[j]?=some a→(i.f,((n+j:Nat):Int))∈P→(f,a)∈P)→∀c∈mh P (fun v=>aM 0 P (f,v)) beh i n l,xB (2*(P.length:Int)) c
 |[],_,_,c,hc=>absurd hc (by simp[mh])
 |a::r,n,h,c,hc=>by
  unfold mh at hc;rw[List.mem_append] at hc;rcases hc with hc|hc
  ·exact Fe (fun hp=>⟨(bW (nT hp)).2.1,(bW (nT hp)).2.2.2⟩) (fun hp=>h 0 a rfl (nT hp)) c hc
  ·exact zz (fun j b hb hm=>h (j+1) b (by simpa using hb) (by rw[show n+(j+1)=n+1+j by omega];exact hm)) c hc
theorem ve {m:Mo}{f:Nat}{g:Fn}{i:Ins}{beh:Int→Bool}(hr:gF m=0)(hg:m.fs[f]?=some g)(hi:i∈g.c.ins):∀c∈gB m.ptrs (f:Int) beh i,xB (2*(m.ptrs.length:Int)) c:=by
 obtain⟨_,_,_,_,h5,_⟩:=gX hr;have hin:=(ku (h5 g (GV hg))).2.2.2.2.2 i hi;obtain⟨_,_,q3,q4,q5⟩:=jy hin;obtain⟨p12,p13,p9,p10,p8,p11,p18⟩:=zy hin;have va:sZ i.op=true→isVar g.vs.length i.a=true:=fun h=>q3 i.a (by
  unfold readsOf
  by_cases e:i.op=15
  ·rw[e] at h;exact absurd h (by decide)
  ·rw[if_neg e];simp[h])
 have vb:i.op=11→isVar g.vs.length i.b=true:=fun h=>q3 i.b (by unfold readsOf;rw[h];simp[sZ,qN]);intro c hc;unfold gB at hc;simp only at hc
 by_cases e12:i.op=12
 ·rw[if_pos e12,Hq] at hc
  rw[hc];exact uZ (bW (eF hg (q4 (by rw[e12];rfl)) (p12 e12))).1
 rw[if_neg e12] at hc
 by_cases e13:i.op=13
 ·rw[if_pos e13,Hq] at hc
  rw[hc];exact uZ (bW (eF hg (va (by rw[e13];rfl)) (p13 e13))).1
 rw[if_neg e13] at hc
 by_cases e9:i.op=9
 ·rw[if_pos e9,List.mem_append,List.mem_append,Hq,Hq] at hc
  obtain⟨a1,a2,a3,a4⟩:=bW (eF hg (va (by rw[e9];rfl)) (p9 e9).1);obtain⟨d1,d2,d3,d4⟩:=bW (eF hg (q4 (by rw[e9];rfl)) (p9 e9).2);rcases hc with(rfl|hc)|rfl
  ·exact jA d2 a1
  ·by_cases hb:i.a≠i.d∧beh i.a=true
   ·rw[if_pos hb,Hq] at hc;rw[hc];exact uZ d2
   ·rw[if_neg hb] at hc;exact absurd hc (by simp)
  ·exact BU d4 a1 a3
 rw[if_neg e9] at hc
 by_cases e10:i.op=10
 ·rw[if_pos e10] at hc
  obtain⟨a1,a2,a3,a4⟩:=bW (eF hg (va (by rw[e10];rfl)) (p10 e10).1);obtain⟨d1,d2,d3,d4⟩:=bW (eF hg (q4 (by rw[e10];rfl)) (p10 e10).2);rcases List.mem_cons.1 hc with rfl|hc
  ·exact BU d2 a1 a3
  ·rw[Hq] at hc;rw[hc];exact BU d4 a1 a3
 rw[if_neg e10] at hc
 by_cases e8:i.op=8
 ·rw[if_pos e8,Hq] at hc
  obtain⟨a1,a2,a3,a4⟩:=bW (eF hg (va (by rw[e8];rfl)) (p8 e8));rw[hc];exact jA a1 a3
 rw[if_neg e8] at hc
 by_cases e11:i.op=11
 ·rw[if_pos e11,List.mem_append] at hc
  obtain⟨a1,a2,a3,a4⟩:=bW (eF hg (va (by rw[e11];rfl)) (p11 e11).1);obtain⟨b1,b2,b3,b4⟩:=bW (eF hg (vb e11) (p11 e11).2);rcases hc with hc|hc
  ·rcases List.mem_cons.1 hc with rfl|hc
   ·exact uZ b1
   ·rw[Hq] at hc;rw[hc];exact jA a1 a3
  ·by_cases hb:beh i.b=true
   ·rw[if_pos hb,Hq] at hc;rw[hc];exact uZ b2
   ·rw[if_neg hb] at hc;exact absurd hc (by simp)
 rw[if_neg e11] at hc
 by_cases e15:i.op=15
 ·rw[if_pos e15,List.mem_append] at hc
  obtain⟨c0,h,c1,c2,c3,c4,c5⟩:=Bp (q5 e15);have hf:((i.f.toNat:Nat):Int)=i.f:=by omega
  rcases hc with hc|hc
  ·refine zz (fun j a ha hm=> ?_) c hc
   obtain⟨k,h',k1,k2,k3⟩:=qj hm;have hk:i.f.toNat=k:=by omega
   subst hk;rw[c1] at k1;obtain rfl:=Hl k1;rw[Hf] at k3;rcases k3 with k3|⟨_,k3⟩
   ·omega
   ·have hva:=q3 a (by unfold readsOf;rw[if_pos e15];simp[GV ha])
    refine eF hg hva ?_;have:=zx c4 ha;rw[Hf] at this;rw[this];exact k3
  ·by_cases hd:0<aM 0 m.ptrs ((f:Int),i.d)
   ·rw[if_pos hd] at hc
    have hdm:=nT (P:=m.ptrs) (x:=((f:Int),i.d)) (by omega);obtain⟨d1,d2,d3,d4⟩:=bW hdm;have hvd:isVar g.vs.length i.d=true:=q4 (by rw[e15];rfl);have hrm:(i.f,(-1:Int))∈m.ptrs:=by
     obtain⟨k,g',k1,k2,k3⟩:=qj hdm;have hk:f=k:=by omega
     subst hk;rw[hg] at k1;obtain rfl:=Hl k1;rcases k3 with k3|⟨_,k3⟩
     ·have:=(bO.1 hvd).1;omega
     ·rw[←hf];exact Ei c1 (by rw[←c5];exact k3)
    obtain⟨r1,r2,r3,r4⟩:=bW hrm;simp only[List.mem_cons,List.not_mem_nil,or_false] at hc;rcases hc with rfl|rfl|rfl|rfl
    ·exact jA d2 r1
    ·exact jA d1 r2
    ·exact jA d4 r3
    ·exact jA d3 r4
   ·rw[if_neg hd] at hc;exact absurd hc (by simp)
 rw[if_neg e15] at hc
 by_cases e18:i.op=18
 ·rw[if_pos e18] at hc
  by_cases hz:aM 0 m.ptrs ((f:Int),(-1:Int))=0
  ·rw[if_pos hz] at hc;exact absurd hc (by simp)
  ·rw[if_neg hz] at hc
   have hrm:=nT hz;obtain⟨r1,r2,r3,r4⟩:=bW hrm;obtain⟨k,g',k1,k2,k3⟩:=qj hrm;have hk:f=k:=by omega
   subst hk;rw[hg] at k1;obtain rfl:=Hl k1;have hrt:g.ret.1=true:=by
    rcases k3 with⟨_,k3⟩|⟨k3,_⟩
    ·exact k3
    ·have:=(bO.1 k3).1;omega
   obtain⟨a1,a2,a3,a4⟩:=bW (eF hg (va (by rw[e18];rfl)) (by rw[p18 e18];exact hrt));simp only[List.mem_cons,List.not_mem_nil,or_false] at hc;rcases hc with rfl|rfl|rfl
   ·exact jA r2 a1
   ·exact jA r1 a2
   ·exact jA r4 a3
 rw[if_neg e18] at hc;exact absurd hc (by simp)
def eP (P:List (Int×Int))(f:Int)(beh:Nat→Int→Bool):Nat→List Ins→List (List Int×(Int×Int))
 |_,[]=>[]
 |k,i::r=>(gB P f (beh k) i).map (fun c=>(c,(f,(k:Int))))++eP P f beh (k+1) r
def dH (f:Int):Nat→List (Int×Int)→List (List Int×(Int×Int))
 |_,[]=>[]
 |k,p::r=>(if p.1=f then[([-(2*(k:Int)+1),-(2*(k:Int)+2)],(f,(-1:Int)))] else[])++dH f (k+1) r
def iq (P:List (Int×Int))(beh:Nat→Nat→Int→Bool):Nat→List Fn→List (List Int×(Int×Int))
 |_,[]=>[]
 |f,g::r=>dH (f:Int) 0 P++eP P (f:Int) (beh f) 0 g.c.ins++iq P beh (f+1) r
def Mo.wants (m:Mo)(beh:Nat→Nat→Int→Bool):List (List Int×(Int×Int)):=iq m.ptrs beh 0 m.fs
theorem vg {P:List (Int×Int)}{f:Int}{beh:Nat→Int→Bool}{x:List Int×(Int×Int)}:∀{l:List Ins}{k:Nat},x∈eP P f beh k l→∃(j:Nat) (i:Ins),l[j]?=some i∧x.1∈gB P f (beh (k+j)) i∧x.2=(f,((k+j:Nat):Int))
 |[],k,h=>absurd h (by simp[eP])
 |i::r,k,h=>by
  unfold eP at h;rw[List.mem_append,List.mem_map] at h;rcases h with⟨c,h1,rfl⟩|h
  ·exact⟨0,i,rfl,h1,rfl⟩
  ·obtain⟨j,y,h1,h2,h3⟩:=vg h
   exact⟨j+1,y,by simpa using h1,by rw[show k+(j+1)=k+1+j by omega];exact h2,by rw[h3];congr 2;omega⟩
theorem vk {f:Int}{x:List Int×(Int×Int)}:∀{l:List (Int×Int)}{k:Nat},x∈dH f k l→∃(j:Nat) (p:Int×Int),l[j]?=some p∧p.1=f∧x=([-(2*((k+j:Nat):Int)+1),-(2*((k+j:Nat):Int)+2)],(f,(-1:Int)))
 |[],k,h=>absurd h (by simp[dH])
 |p::r,k,h=>by
  unfold dH at h;rw[List.mem_append] at h;rcases h with h|h
  ·by_cases hp:p.1=f
   ·rw[if_pos hp,Hq] at h
    exact⟨0,p,rfl,hp,h⟩
   ·rw[if_neg hp] at h;exact absurd h (by simp)
  ·obtain⟨j,q,h1,h2,h3⟩:=vk h
   exact⟨j+1,q,by simpa using h1,h2,by rw[h3,show k+1+j=k+(j+1) by omega]⟩
theorem vv {P:List (Int×Int)}{beh:Nat→Nat→Int→Bool}{x:List Int×(Int×Int)}:∀{l:List Fn}{f:Nat},x∈iq P beh f l→∃(j:Nat) (g:Fn),l[j]?=some g∧(x∈dH ((f+j:Nat):Int) 0 P∨x∈eP P ((f+j:Nat):Int) (beh (f+j)) 0 g.c.ins)
 |[],f,h=>absurd h (by simp[iq])
 |g::r,f,h=>by
  unfold iq at h;rw[List.mem_append,List.mem_append] at h;rcases h with h|h
  ·exact⟨0,g,rfl,h⟩
  ·obtain⟨j,y,h1,h2⟩:=vv h
   exact⟨j+1,y,by simpa using h1,by rw[show f+(j+1)=f+1+j by omega];exact h2⟩
theorem Ej {m:Mo}{beh:Nat→Nat→Int→Bool}(hr:gF m=0){x:List Int×(Int×Int)}(hx:x∈m.wants beh):
  xB (2*(m.ptrs.length:Int)) x.1∧∃(k:Nat) (g:Fn),m.fs[k]?=some g∧x.2.1=(k:Int)∧-1≤x.2.2∧x.2.2<(g.c.ins.length:Int):=by
 obtain⟨f,g,hg,h⟩:=vv hx;rw[Hf] at h;rcases h with h|h
 ·obtain⟨j,p,h1,_,h3⟩:=vk h
  have hj:=(GQ.1 h1).1;rw[h3];refine⟨jA ?_ ?_,f,g,hg,rfl,by simp, ?_⟩
  ·unfold gD;omega
  ·unfold gD;omega
  ·show(-1:Int)<_;omega
 ·obtain⟨j,i,h1,h2,h3⟩:=vg h
  refine⟨ve hr hg (GV h1) _ h2,f,g,hg,by rw[h3],by rw[h3];simp<;>omega, ?_⟩;rw[h3,Hf];have:=(GQ.1 h1).1
  show((j:Nat):Int)<_
  omega
section
open Go.RowKit Go.Maps
theorem Gm:laidOutB prog=true:=by kernel_rfl
theorem FZ:(121:TypeId)<prog.types.size:=of_decide_eq_true (by kernel_rfl)
theorem Ff:prog.keyTypeAt 2 121=true:=by kernel_rfl
theorem rG:Keyed prog 121:=Keyed.of_law (deep_law_laid Gm (m:=2) (show 2+1≤10000 from Nat.le_of_ble_eq_true rfl) FZ Ff (by rw[underlying121]))
theorem El (w:H5):(zeroValue 3).run prog w= .ok (.int .i64 0) w:=by kernel_rfl
def bG (x:Int):Prop:= -9223372036854775808≤x∧x≤9223372036854775807
def CW (f v:Int):Lit:= .string (keyBytes [.int .i64 f,.int .i64 v])
theorem lG {f v:Int}(hf:bG f)(hv:bG v):keyOf prog 121 (.agg #[.int .i64 f,.int .i64 v])=some (CW f v):=by
 have wf:=WalkArith.wf_i64 hf;have wv:=WalkArith.wf_i64 hv;have hkt:prog.keyType 121=true:=by kernel_rfl
 have hc2:prog.cellsOf 121=2:=by kernel_rfl
 have hc1:prog.cellsOf 3=1:=by kernel_rfl
 obtain⟨m,hm⟩:∃m,prog.types.size=m+1:=⟨prog.types.size-1,by have:0<prog.types.size:=of_decide_eq_true (by kernel_rfl);omega⟩
 unfold keyOf;simp only[underlying121];rw[if_pos (by rw[hkt];simp[Value.formed,underlying121,hc2]),hm];unfold Program.keyLits;simp only[underlying121,Value.cells];rw[if_pos ⟨by rw[hc2];rfl,by kernel_rfl⟩];simp[Program.keyLits,underlying3,hc1,wf,wv,CW]
theorem Em {f v g u:Int}(hf:bG f)(hv:bG v)(hg:bG g)(hu:bG u)(h:CW f v=CW g u):f=g∧v=u:=by
 have h1:=lG hf hv;rw[h] at h1;have:=rG.inj h1 (lG hg hu);simpa using this
theorem rH {v:Value}{z:DataW Unit×List MemPlace}(h:plainElem prog 3 v=some z):∃x,v= .int .i64 x∧z=(.lit (.int .i64 x),[]):=by
 unfold plainElem at h;rw[underlying3] at h;cases v<;>simp at h;obtain⟨⟨rfl,_⟩,h2⟩:=h;exact⟨_,rfl,h2.symm⟩
def lM (w:H5)(B n:Nat)(F:Int×Int→Int):Prop:=∃D:DataW Unit,w.ownsMap prog 121 (plainElem prog 3) B n D∧IsMap D∧
 ∀x:Int×Int,bG x.1→bG x.2→D.atKey (CW x.1 x.2) (.lit (.int .i64 0))= .lit (.int .i64 (F x))
theorem lM.made (w:H5):lM (w.alloc (.map #[] 0)) w.heap.size 0 (fun _=>0):=
 ⟨.map [],World.ownsMap_made _ _ _ _,isMap_empty,fun x _ _=>by simp[DataW.atKey]⟩
theorem lM.ext {w w':H5}{B n:Nat}{F:Int×Int→Int}{M:Nat→Prop}(h:lM w B n F)(hx:Ext M w w')(hM:¬M B):lM w' B n F:=by
 obtain⟨D,⟨es,clock,q1,q2⟩,h2⟩:=h;exact⟨D,⟨es,clock,hx.heap q1 hM,q2⟩,h2⟩
theorem lM.look {w:H5}{B n:Nat}{F:Int×Int→Int}(h:lM w B n F){f v:Int}(hf:bG f)(hv:bG v):
  (Instr.lookup 118 (.map (some B)) (.agg #[.int .i64 f,.int .i64 v]) false).run prog w= .ok (.int .i64 (F (f,v))) w:=by
 obtain⟨D,h1,h2,h3⟩:=h;obtain⟨x,ps,hrun,hx⟩:=h1.lookup rG underlying118 (El w) (plainElem_int underlying3 (WalkArith.wf_i64 (by omega))) (lG hf hv);obtain⟨y,rfl,hy⟩:=rH hx;rw[h3 (f,v) hf hv] at hy;simp only[Prod.mk.injEq,DataW.lit.injEq,Lit.int.injEq,true_and] at hy;rw[hrun,←hy.1]
theorem lM.add {w:H5}{B n:Nat}{F:Int×Int→Int}(h:lM w B n F){f v z:Int}(hf:bG f)(hv:bG v)(hz:bG z)(hn:n<maxLen):
  ∃w',(Instr.mapUpdate 118 (.map (some B)) (.agg #[.int .i64 f,.int .i64 v]) (.int .i64 z)).run prog w= .ok () w'∧lM w' B (n+1) (fun x=>if x=(f,v) then z else F x)∧Ext (·=B) w w':=by
 obtain⟨D,h1,h2,h3⟩:=h;obtain⟨w',hrun,r1,r2⟩:=h1.update rG underlying118 hn (lG hf hv) (plainElem_int underlying3 (WalkArith.wf_i64 hz));refine⟨w',hrun,⟨_,r1,h2.put _ _,fun y hy1 hy2=> ?_⟩,Ext.of_grown r2 (fun k hk=> .inl (by simpa using hk.symm))⟩
 by_cases e:y=(f,v)
 ·subst e
  rw[atKey_put_same h2 (by simp[WideAt.IsKeyLit,CW])];simp
 ·rw[atKey_put_other (fun h=>e (by have:=Em hf hv hy1 hy2 h.symm;exact Prod.ext this.1.symm this.2.symm)),h3 y hy1 hy2];simp[e]
theorem vw:(prog.info? 121).map (fun i=>(i.zero,i.size,i.bytes))=some (some (.agg #[.int .i64 0,.int .i64 0]),2,16):=by kernel_rfl
theorem vB:(prog.info? 35).map (fun i=>(i.zero,i.size,i.bytes))=some (some (.slice none 0 0),1,24):=by kernel_rfl
structure nU where
 fA:Option Addr
 fC:Nat
 yA:Option Addr
 yC:Nat
 vals:List Value
def su (x:Int×Int):List Value:=[.int .i64 x.1,.int .i64 x.2]
def Ez (Bb MB:Nat)(lv:Option Addr×Nat)(s:nU)(nP nY:Nat)(at_:Int×Int):Array Value:=
 #[.pointer (some ⟨Bb,0,none⟩),.slice lv.1 nP lv.2,.map (some MB),.slice s.yA nY s.yC,.int .i64 at_.1,.int .i64 at_.2]
structure Wn (T Bb MB:Nat)(lv:Option Addr×Nat)(P:List (Int×Int))(N:Int)(F:Int×Int→Int)(C:List (List Int))(Y:List (Int×Int))(at_:Int×Int)(B:Nat)(tg:Nat→Nat)(s:nU)(w:H5):Prop where
 row:w.heap[T]?=some (.cells (Ez Bb MB lv s P.length Y.length at_) 123 (0,0))
 bld:w.heap[Bb]?=some (.cells #[.int .i64 N,.slice s.fA C.length s.fC] 191 (0,0))
 map:lM w MB P.length F
 lrow:w.ownsRow B 121 2 (.slice lv.1 P.length lv.2) P.length (P.flatMap su)
 frow:w.ownsRow B 35 1 (.slice s.fA C.length s.fC) C.length s.vals
 yrow:w.ownsRow B 121 2 (.slice s.yA Y.length s.yC) Y.length (Y.flatMap su)
 cls:s.vals.length=C.length∧∀(k:Nat)(c:List Int),C[k]?=some c→∃ao cap,s.vals[k]?=some (.slice ao c.length cap)∧dY w ao c∧(c≠[]→∀a,ao=some a→tg a.block=0)
 t1:tg T=1
 t2:tg Bb=2
 t3:tg MB=3
 t4:∀k,(Value.slice lv.1 P.length lv.2).ownBlock=some k→tg k=4
 t5:∀k,(Value.slice s.fA C.length s.fC).ownBlock=some k→tg k=5
 t6:∀k,(Value.slice s.yA Y.length s.yC).ownBlock=some k→tg k=6
 lo:∀k,tg k≠0→B≤k∧k<w.heap.size
 lP:P.length≤30000
 lC:C.length≤1000000
 lY:Y.length≤1000000
section
variable {T Bb MB:Nat}{lv:Option Addr×Nat}{P:List (Int×Int)}{N:Int}{F:Int×Int→Int}{C:List (List Int)}{Y:List (Int×Int)}{at_:Int×Int}{B:Nat}{tg:Nat→Nat}{s:nU}{w w':H5}
theorem Wn.grow (h:Wn T Bb MB lv P N F C Y at_ B tg s w)(hb:H9 w.heap.size w w'):Wn T Bb MB lv P N F C Y at_ B tg s w':=
 ⟨(hb.block T (ae h.row)).trans h.row,(hb.block Bb (ae h.bld)).trans h.bld,h.map.ext (Ext.of_below_size (M:=fun _=>False) hb) (fun h=>h),ownsRow_below h.lrow hb,ownsRow_below h.frow hb,ownsRow_below h.yrow hb,
  ⟨h.cls.1,fun k c hc=>by obtain⟨ao,cap,h1,h2,h3⟩:=h.cls.2 k c hc;exact⟨ao,cap,h1,aG.grow h2 hb,h3⟩⟩,h.t1,h.t2,h.t3,h.t4,h.t5,h.t6,fun k hk=>⟨(h.lo k hk).1,Hd (h.lo k hk).2 hb.size⟩,h.lP,h.lC,h.lY⟩
end
def aV (T Bb MB:Nat)(lv:Option Addr×Nat)(P:List (Int×Int))(N:Int)(F:Int×Int→Int)(C:List (List Int))(Y:List (Int×Int))(at_:Int×Int)(B:Nat)(tg:Nat→Nat)(w w':H5):Prop:=
 ∃tg' s',Wn T Bb MB lv P N F C Y at_ B tg' s' w'∧Ext (fun q=>tg q≠0) w w'∧(∀k,tg' k≠0→tg k≠0∨w.heap.size≤k)∧∀k,tg k≠0→tg' k=tg k
theorem Wn.same {T Bb MB:Nat}{lv:Option Addr×Nat}{P:List (Int×Int)}{N:Int}{F:Int×Int→Int}{C:List (List Int)}{Y:List (Int×Int)}{at_:Int×Int}{B:Nat}{tg:Nat→Nat}{s:nU}{w w':H5}(h:Wn T Bb MB lv P N F C Y at_ B tg s w)(hb:H9 w.heap.size w w'):aV T Bb MB lv P N F C Y at_ B tg w w':=
 ⟨tg,s,h.grow hb,Ext.of_below_size hb,fun k hk=> .inl hk,fun _ _=>rfl⟩
theorem aV.below {T Bb MB:Nat}{lv:Option Addr×Nat}{P:List (Int×Int)}{N:Int}{F:Int×Int→Int}{C:List (List Int)}{Y:List (Int×Int)}{at_:Int×Int}{B:Nat}{tg:Nat→Nat}{w w1 w2:H5}(hb:H9 w.heap.size w w1)(h:aV T Bb MB lv P N F C Y at_ B tg w1 w2):aV T Bb MB lv P N F C Y at_ B tg w w2:=by
 obtain⟨tg',s',h1,h2,h3,h4⟩:=h;exact⟨tg',s',h1,(Ext.of_below_size hb).trans h2 (fun q hq=> .inl hq),fun k hk=>(h3 k hk).imp id (fun h=>Nat.le_trans hb.size h),h4⟩
end
theorem dU {w w':H5}{ao:Option Addr}{xs:List Int}{M:Nat→Prop}(h:dY w ao xs)(hx:Ext M w w')(hM:∀a,xs≠[]→ao=some a→¬M a.block):dY w' ao xs:=by
 intro hne;obtain⟨b,off,h1,h2,h3⟩:=h hne;exact⟨b,off,h1,Hd h2 hx.size,fun i x hi k u hu=>(hx.cell (a:=⟨b,off+i*1+k,none⟩) h2 (hM ⟨b,off,none⟩ hne h1)).trans (h3 i x hi k u hu)⟩
theorem rJ {w:H5}{base n c:Nat}{ao:Option Addr}{xs:List Int}(h:aU w base (.slice ao n c) xs)(hn:n=xs.length):dY w ao xs:=by
 intro hne;obtain⟨g,e,_,hg,hc⟩:=h.shape (List.length_pos_iff.2 hne);refine⟨g,0,e,hg,fun i z hz k u hu=> ?_⟩;cases k with
 |succ k=>simp at hu
 |zero=>
  obtain rfl:Value.int .i64 z=u:=by simpa using hu
  simpa using hc i z hz
section
variable {T Bb MB:Nat}{lv:Option Addr×Nat}{P:List (Int×Int)}{N:Int}{F:Int×Int→Int}{C:List (List Int)}{Y:List (Int×Int)}{at_:Int×Int}{B:Nat}{tg:Nat→Nat}{s:nU}{w w5 W8 w9:H5}
theorem CX {xs:List Int}{ao a9:Option Addr}{cp c9:Nat}(h:Wn T Bb MB lv P N F C Y at_ B tg s w)(hb5:H9 w.heap.size w w5)(ho5:aU w5 w.heap.size (.slice ao xs.length cp) xs)(hb58:H9 w5.heap.size w5 W8)
  (hown9:w9.ownsRow B 35 1 (.slice a9 (C.length+1) c9) (C.length+1) (s.vals++[.slice ao xs.length cp]))(hgr:W8.grownBy w9 (Value.slice s.fA C.length s.fC).ownBlock)
  (hat9:∀k,(Value.slice a9 (C.length+1) c9).ownBlock=some k→(Value.slice s.fA C.length s.fC).ownBlock=some k∨W8.heap.size≤k)(hl:C.length+1≤1000000):
  aV T Bb MB lv P N F (C++[xs]) Y at_ B tg w (w9.setCell ⟨Bb,1,none⟩ (.slice a9 (C.length+1) c9)):=by
 obtain⟨WF,hWF⟩:=zE (w9.setCell ⟨Bb,1,none⟩ (.slice a9 (C.length+1) c9));rw[hWF];have hb8:H9 w.heap.size w W8:=hb5.trans (hb58.mono hb5.size);have hx9:Ext (fun q=>(Value.slice s.fA C.length s.fC).ownBlock=some q) W8 w9:=Ext.of_grown hgr (fun q hq=> .inl hq);have hxF:Ext (·=Bb) w9 WF:=by rw[←hWF];exact Ext.set1 w9 Bb 1 _
 have hx8F:Ext (fun q=>q=Bb∨(Value.slice s.fA C.length s.fC).ownBlock=some q) W8 WF:=(hx9.mono (fun q h=> .inr h)).trans hxF (fun q h=> .inl (.inl h));have hall:Ext (fun q=>q=Bb∨(Value.slice s.fA C.length s.fC).ownBlock=some q) w WF:=(Ext.of_below_size hb8).trans hx8F (fun q h=> .inl h);have ht5:=h.t5;have hne:∀k,tg k≠2→tg k≠5→¬(k=Bb∨(Value.slice s.fA C.length s.fC).ownBlock=some k):=fun k h1 h2 h3=>by
  rcases h3 with rfl|h3
  ·exact h1 h.t2
  ·exact h2 (ht5 k h3)
 have hlow:∀k,tg k≠0→k<w.heap.size:=fun k hk=>(h.lo k hk).2;have hsz:w.heap.size≤W8.heap.size:=hb8.size;have hBb:=ae h.bld;have hbF:WF.heap[Bb]?=some (.cells #[.int .i64 N,.slice a9 (C.length+1) c9] 191 (0,0)):=by
  rw[←hWF];exact Hz w9 Bb 1 _ _ _ (hx9.heap ((hb8.block Bb hBb).trans h.bld) (fun e=>by have:=ht5 _ e;have:=h.t2;omega))
 have hln:(C++[xs]).length=C.length+1:=by simp
 have hnew:∀k,(Value.slice a9 (C.length+1) c9).ownBlock=some k→tg k≠0→tg k=5:=fun k hk h0=>by
  rcases hat9 k hk with h1|h1
  ·exact ht5 k h1
  ·have:=hlow k h0;omega
 refine⟨fun k=>if (Value.slice a9 (C.length+1) c9).ownBlock=some k then 5 else tg k,{s with fA:=a9,fC:=c9,vals:=s.vals++[.slice ao xs.length cp]},⟨?_, ?_, ?_, ?_, ?_, ?_,⟨?_, ?_⟩, ?_, ?_, ?_, ?_, ?_, ?_, ?_,h.lP,by rw[hln];exact hl,h.lY⟩, ?_, ?_, ?_⟩
 ·exact hall.heap h.row (hne T (by rw[h.t1];decide) (by rw[h.t1];decide))
 ·rw[hln];exact hbF
 ·exact h.map.ext hall (hne MB (by rw[h.t3];decide) (by rw[h.t3];decide))
 ·exact ah h.lrow hall (fun k hk=>hne k (by rw[h.t4 k hk];decide) (by rw[h.t4 k hk];decide))
 ·rw[hln];exact ah hown9 hxF (fun k hk e=>by
   subst e;rcases hat9 _ hk with h1|h1
   ·have:=ht5 _ h1;have:=h.t2;omega
   ·omega)
 ·exact ah h.yrow hall (fun k hk=>hne k (by rw[h.t6 k hk];decide) (by rw[h.t6 k hk];decide))
 ·simp[h.cls.1]
 ·intro k c hc
  rw[List.getElem?_append] at hc
  by_cases hk:k<C.length
  ·rw[if_pos hk] at hc
   obtain⟨ao',cp',h1,h2,h3⟩:=h.cls.2 k c hc;refine⟨ao',cp',by rw[List.getElem?_append_left (by have:=(GQ.1 h1).1;omega)];exact h1,dU h2 hall (fun a hn e=>hne _ (by rw[h3 hn a e];decide) (by rw[h3 hn a e];decide)),fun hn a e=> ?_⟩;rw[if_neg (fun ho=> ?_)]
   ·exact h3 hn a e
   ·obtain⟨b,off,e1,e2,_⟩:=h2 hn
    rw[e] at e1;obtain rfl:=Hl e1;rcases hat9 _ ho with h4|h4
    ·have:=ht5 _ h4;have:=h3 hn _ e;omega
    ·simp only at e2 h4;omega
  ·rw[if_neg hk] at hc
   obtain⟨hk0,rfl⟩:k-C.length=0∧xs=c:=by
    cases hq:k-C.length with
    |zero=>rw[hq] at hc;exact⟨rfl,by simpa using hc⟩
    |succ q=>rw[hq] at hc;simp at hc
   have hkl:k=s.vals.length:=by rw[h.cls.1];omega
   have hir:=rJ ho5 rfl;have hnb:∀a,xs≠[]→ao=some a→w.heap.size≤a.block∧a.block<w5.heap.size:=fun a hn e=>by
    obtain⟨g,e1,e2,e3,_⟩:=ho5.shape (List.length_pos_iff.2 hn);rw[e] at e1;obtain rfl:=Hl e1;exact⟨e2,e3⟩
   have h58:=hb58.size;refine⟨ao,cp,by rw[hkl];simp,dU (aG.grow hir hb58) hx8F (fun a hn e hq=> ?_),fun hn a e=> ?_⟩
   ·have:=hnb a hn e
    rcases hq with hq|hq
    ·omega
    ·have:=hlow _ (by rw[ht5 _ hq];decide);omega
   ·have h1:=hnb a hn e
    rw[if_neg (fun ho=> ?_)]
    ·cases hz:tg a.block with
     |zero=>rfl
     |succ q=>have:=hlow a.block (by omega);omega
    ·rcases hat9 _ ho with h4|h4
     ·have:=hlow _ (by rw[ht5 _ h4];decide);omega
     ·omega
 ·show(if _ then 5 else tg T)=1
  rw[if_neg (fun ho=>by have:=hnew T ho (by rw[h.t1];decide);have:=h.t1;omega)];exact h.t1
 ·show(if _ then 5 else tg Bb)=2
  rw[if_neg (fun ho=>by have:=hnew Bb ho (by rw[h.t2];decide);have:=h.t2;omega)];exact h.t2
 ·show(if _ then 5 else tg MB)=3
  rw[if_neg (fun ho=>by have:=hnew MB ho (by rw[h.t3];decide);have:=h.t3;omega)];exact h.t3
 ·intro k hk
  have h4:=h.t4 k hk
  show(if _ then 5 else tg k)=4
  rw[if_neg (fun ho=>by have:=hnew k ho (by omega);omega)];exact h4
 ·intro k hk
  rw[hln] at hk
  show(if _ then 5 else tg k)=5
  rw[if_pos hk]
 ·intro k hk
  have h4:=h.t6 k hk
  show(if _ then 5 else tg k)=6
  rw[if_neg (fun ho=>by have:=hnew k ho (by omega);omega)];exact h4
 ·intro k hk
  by_cases ho:(Value.slice a9 (C.length+1) c9).ownBlock=some k
  ·have:=ai hown9 ho
   exact⟨this.1,Hd this.2 hxF.size⟩
  ·simp only[if_neg ho] at hk
   exact⟨(h.lo k hk).1,Hd (hlow k hk) hall.size⟩
 ·refine hall.mono (fun q hq=> ?_)
  rcases hq with rfl|hq
  ·rw[h.t2];decide
  ·rw[ht5 q hq];decide
 ·intro k hk
  by_cases ho:(Value.slice a9 (C.length+1) c9).ownBlock=some k
  ·rcases hat9 k ho with h4|h4
   ·exact .inl (by rw[ht5 _ h4];decide)
   ·exact .inr (by omega)
  ·simp only[if_neg ho] at hk
   exact .inl hk
 ·intro k hk
  by_cases ho:(Value.slice a9 (C.length+1) c9).ownBlock=some k
  ·simp only[if_pos ho];exact(hnew k ho hk).symm
  ·simp only[if_neg ho]
theorem F3 {f v:Int}{a9:Option Addr}{c9:Nat}(h:Wn T Bb MB lv P N F C Y (f,v) B tg s w)(hb8:H9 w.heap.size w W8)
  (hown9:w9.ownsRow B 121 2 (.slice a9 (Y.length+1) c9) (Y.length+1) (Y.flatMap su++[.int .i64 f,.int .i64 v]))(hgr:W8.grownBy w9 (Value.slice s.yA Y.length s.yC).ownBlock)
  (hat9:∀k,(Value.slice a9 (Y.length+1) c9).ownBlock=some k→(Value.slice s.yA Y.length s.yC).ownBlock=some k∨W8.heap.size≤k)(hl:Y.length+1≤1000000):
  aV T Bb MB lv P N F C (Y++[(f,v)]) (f,v) B tg w (w9.setCell ⟨T,3,none⟩ (.slice a9 (Y.length+1) c9)):=by
 obtain⟨WF,hWF⟩:=zE (w9.setCell ⟨T,3,none⟩ (.slice a9 (Y.length+1) c9));rw[hWF];have hx9:Ext (fun q=>(Value.slice s.yA Y.length s.yC).ownBlock=some q) W8 w9:=Ext.of_grown hgr (fun q hq=> .inl hq);have hxF:Ext (·=T) w9 WF:=by rw[←hWF];exact Ext.set1 w9 T 3 _
 have hx8F:Ext (fun q=>q=T∨(Value.slice s.yA Y.length s.yC).ownBlock=some q) W8 WF:=(hx9.mono (fun q h=> .inr h)).trans hxF (fun q h=> .inl (.inl h));have hall:Ext (fun q=>q=T∨(Value.slice s.yA Y.length s.yC).ownBlock=some q) w WF:=(Ext.of_below_size hb8).trans hx8F (fun q h=> .inl h);have ht6:=h.t6;have hne:∀k,tg k≠1→tg k≠6→¬(k=T∨(Value.slice s.yA Y.length s.yC).ownBlock=some k):=fun k h1 h2 h3=>by
  rcases h3 with rfl|h3
  ·exact h1 h.t1
  ·exact h2 (ht6 k h3)
 have hlow:∀k,tg k≠0→k<w.heap.size:=fun k hk=>(h.lo k hk).2;have hsz:w.heap.size≤W8.heap.size:=hb8.size;have hT:=ae h.row;have hbF:WF.heap[T]?=some (.cells (Ez Bb MB lv {s with yA:=a9,yC:=c9} P.length (Y.length+1) (f,v)) 123 (0,0)):=by
  rw[←hWF];exact Hz w9 T 3 _ _ _ (hx9.heap ((hb8.block T hT).trans h.row) (fun e=>by have:=ht6 _ e;have:=h.t1;omega))
 have hln:(Y++[(f,v)]).length=Y.length+1:=by simp
 have hnew:∀k,(Value.slice a9 (Y.length+1) c9).ownBlock=some k→tg k≠0→tg k=6:=fun k hk h0=>by
  rcases hat9 k hk with h1|h1
  ·exact ht6 k h1
  ·have:=hlow k h0;omega
 refine⟨fun k=>if (Value.slice a9 (Y.length+1) c9).ownBlock=some k then 6 else tg k,{s with yA:=a9,yC:=c9},⟨?_, ?_, ?_, ?_, ?_, ?_,⟨h.cls.1, ?_⟩, ?_, ?_, ?_, ?_, ?_, ?_, ?_,h.lP,h.lC,by rw[hln];exact hl⟩, ?_, ?_, ?_⟩
 ·rw[hln];exact hbF
 ·exact hall.heap h.bld (hne Bb (by rw[h.t2];decide) (by rw[h.t2];decide))
 ·exact h.map.ext hall (hne MB (by rw[h.t3];decide) (by rw[h.t3];decide))
 ·exact ah h.lrow hall (fun k hk=>hne k (by rw[h.t4 k hk];decide) (by rw[h.t4 k hk];decide))
 ·exact ah h.frow hall (fun k hk=>hne k (by rw[h.t5 k hk];decide) (by rw[h.t5 k hk];decide))
 ·rw[hln,List.flatMap_append];exact ah hown9 hxF (fun k hk e=>by
   subst e;rcases hat9 _ hk with h1|h1
   ·have:=ht6 _ h1;have:=h.t1;omega
   ·omega)
 ·intro k c hc
  obtain⟨ao',cp',h1,h2,h3⟩:=h.cls.2 k c hc;refine⟨ao',cp',h1,dU h2 hall (fun a hn e=>hne _ (by rw[h3 hn a e];decide) (by rw[h3 hn a e];decide)),fun hn a e=> ?_⟩;rw[if_neg (fun ho=> ?_)]
  ·exact h3 hn a e
  ·obtain⟨b,off,e1,e2,_⟩:=h2 hn
   rw[e] at e1;obtain rfl:=Hl e1;rcases hat9 _ ho with h4|h4
   ·have:=ht6 _ h4;have:=h3 hn _ e;omega
   ·simp only at e2 h4;omega
 ·show(if _ then 6 else tg T)=1
  rw[if_neg (fun ho=>by have:=hnew T ho (by rw[h.t1];decide);have:=h.t1;omega)];exact h.t1
 ·show(if _ then 6 else tg Bb)=2
  rw[if_neg (fun ho=>by have:=hnew Bb ho (by rw[h.t2];decide);have:=h.t2;omega)];exact h.t2
 ·show(if _ then 6 else tg MB)=3
  rw[if_neg (fun ho=>by have:=hnew MB ho (by rw[h.t3];decide);have:=h.t3;omega)];exact h.t3
 ·intro k hk
  have h4:=h.t4 k hk
  show(if _ then 6 else tg k)=4
  rw[if_neg (fun ho=>by have:=hnew k ho (by omega);omega)];exact h4
 ·intro k hk
  have h4:=h.t5 k hk
  show(if _ then 6 else tg k)=5
  rw[if_neg (fun ho=>by have:=hnew k ho (by omega);omega)];exact h4
 ·intro k hk
  rw[hln] at hk
  show(if _ then 6 else tg k)=6
  rw[if_pos hk]
 ·intro k hk
  by_cases ho:(Value.slice a9 (Y.length+1) c9).ownBlock=some k
  ·have:=ai hown9 ho
   exact⟨this.1,Hd this.2 hxF.size⟩
  ·simp only[if_neg ho] at hk
   exact⟨(h.lo k hk).1,Hd (hlow k hk) hall.size⟩
 ·refine hall.mono (fun q hq=> ?_)
  rcases hq with rfl|hq
  ·rw[h.t1];decide
  ·rw[ht6 q hq];decide
 ·intro k hk
  by_cases ho:(Value.slice a9 (Y.length+1) c9).ownBlock=some k
  ·rcases hat9 k ho with h4|h4
   ·exact .inl (by rw[ht6 _ h4];decide)
   ·exact .inr (by omega)
  ·simp only[if_neg ho] at hk
   exact .inl hk
 ·intro k hk
  by_cases ho:(Value.slice a9 (Y.length+1) c9).ownBlock=some k
  ·simp only[if_pos ho];exact(hnew k ho hk).symm
  ·simp only[if_neg ho]
end
def bH (n x:Int):Bool:= !(x==0)&&decide (x≤n)&&decide (-n≤x)
theorem Fg {n x:Int}(h:gD n x):bH n x=true:=by
 obtain⟨h1,h2,h3⟩:=h;unfold bH;rw[decide_eq_true h2,decide_eq_true h3,beq_false_of_ne h1];rfl
theorem uf (n x:Int)(hn:0≤n∧n≤9000000)(w:H5):zS 118 #[.int .i64 n,.int .i64 x] w (.bool (bH n x)):=by
 by_cases h0:x=0
 ·subst h0
  go_enter func118,ntmps118;go_wp2;go_ret;exact⟨rfl,rfl⟩
 have h0b:(x==0)=false:=beq_false_of_ne h0;have h0c:(x != 0)=true:=by rw[bne,h0b];rfl
 have hr:bH n x=(decide (x≤n)&&decide (-n≤x)):=by unfold bH;rw[h0b];rfl
 rw[hr];clear hr
 by_cases h1:x≤n
 ·have h1b:decide (x≤n)=true:=decide_eq_true h1
  by_cases h2: -n≤x
  ·have h2b:decide (-n≤x)=true:=decide_eq_true h2
   rw[h1b,h2b];go_enter func118,ntmps118;go_wp2;go_ret;exact⟨rfl,rfl⟩
  ·have h2b:decide (-n≤x)=false:=decide_eq_false h2
   rw[h1b,h2b];go_enter func118,ntmps118;go_wp2;go_ret;exact⟨rfl,rfl⟩
 ·have h1b:decide (x≤n)=false:=decide_eq_false h1
  rw[h1b];go_enter func118,ntmps118;go_wp2;go_ret;exact⟨rfl,rfl⟩
theorem xC (n x:Int)(B:Nat)(hn:0≤n∧n≤9000000)(w:H5)(hB:w.cell? ⟨B,0,none⟩=some (.int .i64 n)):zP 117 #[.int .i64 x,.pointer (some ⟨B,0,none⟩)] w (.bool (!bH n x)):=by
 have HL:=zH (uf n x hn w);go_enter func117,ntmps117
 go_wp2_with (go_at_call 118;refine HL.out.mono ?_;rintro e w ⟨rfl,rfl⟩)
 go_ret;exact⟨rfl,Hw _ _⟩
theorem zA (w:H5)(ao:Option Addr)(xs:List Int)(c B:Nat)(p:Int→Bool)(hn:xs.length≤maxLen)(h:ak w ao xs)
  (hf:∀W,H9 w.heap.size w W→∀z∈xs,zP 117 #[.int .i64 z,.pointer (some ⟨B,0,none⟩)] W (.bool (p z))):
  zP 152 #[.slice ao xs.length c,.func (.func 117) #[] #[.pointer (some ⟨B,0,none⟩)]] w (.int .i64 (fZ p xs)):=by
 have H:=zH h;have HF:=zH hf;unfold maxLen at hn;clear h hf;go_enter func152,ntmps152
 go_wp2_with fail
 go_loopw [8] (fun k wr=>∃j:Nat,j≤xs.length∧k= .int .i64 (j:Int)∧(∀z∈xs.take j,p z=false)∧H9 w.heap.size w wr) (fun k _=>xs.length-(intOf k).toNat)
 case atStart=>exact⟨0,Hg _,rfl,by simp,Hw _ _⟩
 case round=>
  obtain⟨j,hj,rfl,hz,hb⟩:=hrel
  by_cases hjl:j<xs.length
  ·obtain⟨y,hy⟩:∃y,xs[j]?=some y:=⟨_,GN hjl⟩
   obtain⟨g1,off,rfl,hg1,q1⟩:=H.out.below hb (by intro e;rw[e] at hjl;simp at hjl);have d1:wr.cell? ⟨g1,off+j,none⟩=some (.int .i64 y):=q1 j y hy;have hjI:(j:Int)<(xs.length:Int):=by omega
   have HC:=zH (HF.out wr hb y (GV hy));obtain⟨d,hd⟩:=zE (p y);rw[hd] at HC;have HB:=zH hb;have HZ:=zH hz;have HY:=zH hy;have HD:=zH hd;clear hb hz hy hd q1;cases d with
   |true=>
    go_wp2_with (go_at_call 117;refine HC.out.mono ?_;rintro e w2 ⟨rfl,hb2⟩;have HB2:=zH hb2;clear hb2)
    go_ret;exact⟨by rw[iH HZ.out HY.out HD.out];rfl,HB.out.trans (HB2.out.mono HB.out.size)⟩
   |false=>
    go_wp2_with (go_at_call 117;refine HC.out.mono ?_;rintro e w2 ⟨rfl,hb2⟩;have HB2:=zH hb2;clear hb2)
    go_roundw
    case rel=>exact⟨j+1,by omega,by go_num,dE HZ.out HY.out HD.out,HB.out.trans (HB2.out.mono HB.out.size)⟩
    case measure=>simp[intOf];omega
  ·have hje:j=xs.length:=by omega
   subst hje;rw[Ha] at hz;have HM:=zH (fI hz);have HB:=zH hb;clear hz hb;go_wp2;go_ret;exact⟨by rw[HM.out];rfl,HB.out⟩
theorem Fh (xs:List Int)(p:Int→Bool):(!(xs.any fun x=> !p x))=xs.all p:=by
 induction xs with
 |nil=>rfl
 |cons x r ih=>simp[Bool.not_or,ih]
theorem nW (n:Int)(hn:0≤n∧n≤9000000)(B:Nat)(ao:Option Addr)(xs:List Int)(c:Nat)(w:H5)(hl:xs.length≤maxLen)(h:ak w ao xs)(hB:w.cell? ⟨B,0,none⟩=some (.int .i64 n))(hBl:B<w.heap.size):
  zP 116 #[.slice ao xs.length c,.func (.func 117) #[] #[.pointer (some ⟨B,0,none⟩)]] w (.bool (xs.any fun x=> !bH n x)):=by
 have HI:=zH (zA w ao xs c B (fun x=> !bH n x) hl h (fun W hW z _=>xC n z B hn W (by rw[hW.cell (p:=⟨B,0,none⟩) hBl];exact hB)));clear h hB;have HX:=zH (nz (p:=fun x=> !bH n x) (xs:=xs));go_enter func116,ntmps116
 go_wp2_with (go_at_call 152;refine HI.out.mono ?_;rintro e w2 ⟨rfl,hb2⟩;have HB2:=zH hb2;clear hb2)
 go_ret;exact⟨by rw[←HX.out];rfl,HB2.out⟩
theorem vD (n:Int)(hn:0≤n∧n≤9000000)(ao:Option Addr)(xs:List Int)(c:Nat)(w:H5)(hl:xs.length≤maxLen)(h:ak w ao xs):
  zP 67 #[.int .i64 n,.slice ao xs.length c] w (.bool (xs.all (bH n))):=by
 obtain⟨B,hB⟩:=zE w.heap.size;obtain⟨W1,hW1⟩:=zE (w.alloc (.cells #[.int .i64 n] 3));have hb1:=gK hW1;have hr1:W1.heap[B]?=some (.cells #[.int .i64 n] 3 (0,0)):=by rw[←hW1,←hB];exact alloc_at _ _
 have HC:=zH (nW n hn B ao xs c W1 hl (h.below hb1) (rowAt hr1 0 rfl).1 (ae hr1));have HW1:=zH hW1;have HB1:=zH hb1;have HA:=zH (Fh xs (bH n));clear h hW1 hb1 hr1;go_enter func67,ntmps67
 go_wp2_with (go_at_call 116;rw[HW1.out];refine HC.out.mono ?_;rintro e w2 ⟨rfl,hb2⟩;have HB2:=zH hb2;clear hb2)
 go_ret;exact⟨by rw[←HA.out];rfl,HB1.out.trans (HB2.out.mono HB1.out.size)⟩
theorem nX (w:H5)(ao:Option Addr)(xs:List Int)(cap:Nat)(h:ak w ao xs)(hn:xs.length≤80000):
  Calls prog 111 #[.slice ao xs.length cap] w fun e w'=>∃ao' cap',e= .returned (.slice ao' xs.length cap')∧aU w' w.heap.size (.slice ao' xs.length cap') xs∧H9 w.heap.size w w':=by
 have q22:∀(w:H5)(a:Option Addr)(n c n' c':Nat),(binOp .eql 35 (.slice a n c) (.slice none n' c')).run prog w= .ok (.bool a.isNone) w:=fun w a n c n' c'=>Lib.run_eql_slice_nil w _ _ a n c n' c' underlying35;cases ao with
 |none=>
  obtain rfl:=h.nil_of_none;clear h;go_enter func111,ntmps111;go_wp2;go_ret;exact⟨none,0,rfl,aU.nil _ _,Hw _ _⟩
 |some ad=>
  have HE:Ia (aU (w.alloc (.cells #[] 3)) w.heap.size (.slice (some ⟨w.heap.size,0,none⟩) 0 0) []):=jB _ _ _ _ (He _);have HI:Ia (ak (w.alloc (.cells #[] 3)) (some ad) xs):=h.below ((Hw _ _).alloc (He _) _);clear h;go_enter func111,ntmps111
  go_wp2_with (at_builtin;refine aJ rfl _ _ rfl w.heap.size _ [] rfl HE.out _ xs _ rfl HI.out (by simp;omega) (by rw[Hu];omega) ?_;intro v7 w7 hown7 hgrow7;have HQ7:=zH hown7;have HG7:=zH hgrow7;obtain⟨ao7,c7,hv7⟩:=hown7.isSlice;subst hv7;clear hown7 hgrow7)
  go_ret;refine⟨ao7,c7,by simp,by have:=HQ7.out;simpa using this, ?_⟩;exact((Hw _ _).alloc (He _) _).grown HG7.out (by rw[Hu];omega) (fun k hk=>by have h9:some w.heap.size=some k:=hk;have:=Hl h9;omega)
section
variable {T Bb MB:Nat}{lv:Option Addr×Nat}{P:List (Int×Int)}{N:Int}{F:Int×Int→Int}{C:List (List Int)}{Y:List (Int×Int)}{at_:Int×Int}{B:Nat}{tg:Nat→Nat}{s:nU}
theorem xD (w:H5)(h:Wn T Bb MB lv P N F C Y at_ B tg s w)(hN:0≤N∧N≤9000000)(ao:Option Addr)(xs:List Int)(cap:Nat)(hx:ak w ao xs)(hok:xs.all (bH N)=true)(hxl:xs.length≤80000)(hl:C.length+1≤1000000):
  Calls prog 101 #[.pointer (some ⟨Bb,0,none⟩),.slice ao xs.length cap] w fun e w'=>e= .returned (.tuple #[])∧aV T Bb MB lv P N F (C++[xs]) Y at_ B tg w w':=by
 have hrow:=h.bld;have hBl:=ae hrow;have hBs:B≤w.heap.size:=by have:=(h.lo T (by rw[h.t1];decide));omega
 have c0:=(rowAt hrow 0 rfl).1;have HAL:Ia (zP 67 #[.int .i64 N,.slice ao xs.length cap] w (.bool true)):=by
  have:=vD N hN ao xs cap w (by unfold maxLen;omega) hx;rw[hok] at this;exact this
 have H:=zH h;have HX:=zH hx;obtain⟨i0,hi0,hi1,hi2,hi3⟩:=info_parts vB;clear h hx hok hrow;go_enter func101,ntmps101
 go_upto_region 1 with(go_at_call 67;refine HAL.out.mono ?_;rintro e w2 ⟨rfl,hb2⟩;have HB2:=zH hb2;clear hb2)
 clear c0;have hrow2:w2.heap[Bb]?=some (.cells #[.int .i64 N,.slice s.fA C.length s.fC] 191 (0,0)):=(HB2.out.block Bb hBl).trans H.out.bld;have hBl2:=ae hrow2;have HROW2:=zH hrow2;obtain⟨S1,hS1⟩:=zE ((fun w'=>w'.heap[Bb]?=some (.cells #[.int .i64 N,.slice s.fA C.length s.fC] 191 (0,0))):H5→Prop);have hS0:S1 w2.drew:=by rw[←hS1];exact hrow2
 have hsb:∀W,W.heap[Bb]?=some (.cells #[.int .i64 N,.slice s.fA C.length s.fC] 191 (0,0))→S1 W:=fun W h=>by rw[←hS1];exact h
 have hce:∀W,S1 W→W.cell? ⟨Bb,1,none⟩=some (.slice s.fA C.length s.fC)∧Bb<W.heap.size:=fun W h=>by rw[←hS1] at h;exact⟨(rowAt h 1 rfl).1,ae h⟩
 have HSB:=zH hsb;have HCE:=zH hce;have HCL:=zH (nX w2.drew ao xs cap ((HX.out.below HB2.out).below (Hw _ _).drew) hxl);clear hS1 hsb hce hrow2;refine aj 13 S1 (by kernel_rfl) ?_;refine zT 0 rfl HCE.out ?_;(try go_simp);refine zT 1 rfl HCE.out ?_;(try go_simp);refine zT 2 rfl HCE.out ?_;(try go_simp);refine zT 3 rfl HCE.out ?_;(try go_simp);refine zT 4 rfl HCE.out ?_;(try go_simp);refine zT 5 rfl HCE.out ?_;(try go_simp);refine zT 6 rfl HCE.out ?_;(try go_simp);refine zO 7 rfl fun K' hK=> ?_;go_simp;go_at_call 111;refine HCL.out.mono ?_;rintro e w5 ⟨ao5,cp5,rfl,ho5,hb5⟩;have hb25:H9 w2.heap.size w2 w5:=(Hw _ _).drew.trans hb5;have hrow5:=(hb25.block Bb hBl2).trans HROW2.out;refine hK _ _ (HSB.out _ hrow5) ?_;clear hK;(try go_simp);refine zO 8 rfl fun K' hK=> ?_;go_simp;obtain⟨G,hG⟩:=zE w5.heap.size;obtain⟨W8,hW8⟩:=zE (w5.alloc (.cells #[.slice ao5 xs.length cp5] 35));(try rw[hG]);(try rw[hW8]);have hb8:=gK hW8;have hrG:W8.heap[G]?=some (.cells #[.slice ao5 xs.length cp5] 35 (0,0)):=by rw[←hW8,←hG];exact alloc_at _ _
 have hrow8:=(hb8.block Bb (ae hrow5)).trans hrow5;have hbw8:H9 w.heap.size w W8:=HB2.out.trans ((hb25.trans (hb8.mono hb25.size)).mono HB2.out.size);refine hK _ _ (HSB.out _ hrow8) ?_;clear hK;(try go_simp);refine zO 9 rfl fun K' hK=> ?_;have hmk8:=H.out.grow hbw8;have hB8:B≤W8.heap.size:=Nat.le_trans hBs hbw8.size;have hvl:s.vals.length=C.length*1:=by have:=H.out.cls.1;omega
 refine aF (.tmp 20) (.tmp 23) 46 rfl B 35 i0 _ 1 24 underlying46 hi0 hi1 hi2 hi3 rfl (by decide) (.slice s.fA C.length s.fC) C.length s.vals rfl hmk8.frow (some ⟨G,0,none⟩) 1 1 [.slice ao5 xs.length cp5] rfl rfl (fun h=>by cases h) (fun ad had jj uu hu=>by
  obtain rfl:(⟨G,0,none⟩:Addr)=ad:=by simpa using had
  rw[Addr.add_lit,Hf,cell_of_row _ _ _ _ _ _ hrG];simpa using hu) (by simp[Value.oneCell']) (by unfold maxLen;omega) (by omega) hB8 ?_
 intro v9 w9 hown9 hgr9 hat9;obtain⟨ao9,c9,hv9⟩:=aD hown9;subst hv9;have hx9:Ext (fun q=>(Value.slice s.fA C.length s.fC).ownBlock=some q) W8 w9:=Ext.of_grown hgr9 (fun q hq=> .inl hq);have hrow9:=hx9.heap hrow8 (fun e=>by have:=H.out.t5 _ e;have:=H.out.t2;omega);have hS9:S1 w9:=HSB.out _ hrow9;have hfz:=(rowAt hrow9 1 rfl).2;have hcl:=(rowAt hrow9 1 rfl).1;have hB9:=ae hrow9;refine hK _ _ hS9 ?_;clear hK;(try go_simp);refine zT 10 rfl HCE.out ?_;(try go_simp);refine zT 11 rfl HCE.out ?_;(try go_simp);refine zT 12 rfl HCE.out ?_;(try go_simp);refine zK rfl fun K' hK=> ?_;go_simp;refine hK _ _ ?_;clear hK;refine⟨by kernel_rfl, ?_⟩;have hb5w:H9 w.heap.size w w5:=HB2.out.trans (hb25.mono HB2.out.size);have hFIN:aV T Bb MB lv P N F (C++[xs]) Y at_ B tg w (w9.setCell ⟨Bb,1,none⟩ (.slice ao9 (C.length+1) c9)):=CX H.out hb5w (ho5.mono (by have:=HB2.out.size;exact this)) hb8 hown9 hgr9 hat9 hl;have HFIN:=zH hFIN;clear hFIN hown9 hgr9 hat9 hx9 hrow9 hS9 hmk8 hrow8 hrow5 hrG hW8 hb8 hb25 ho5 hb5 hb5w hbw8 hG;go_wp2
 go_end0
 exact⟨rfl,HFIN.out⟩
end
section
variable {T Bb MB:Nat}{lv:Option Addr×Nat}{P:List (Int×Int)}{N:Int}{F:Int×Int→Int}{C:List (List Int)}{Y:List (Int×Int)}{at_:Int×Int}{B:Nat}{tg:Nat→Nat}{s:nU}
theorem iO (w:H5)(h:Wn T Bb MB lv P N F C Y at_ B tg s w)(hN:0≤N∧N≤9000000)(ao:Option Addr)(xs:List Int)(cap:Nat)(hx:ak w ao xs)(hok:xs.all (bH N)=true)(hxl:xs.length≤80000)(hl:C.length+1≤1000000)(hly:Y.length+1≤1000000):
  Calls prog 56 #[.pointer (some ⟨T,0,none⟩),.slice ao xs.length cap] w fun e w'=>e= .returned (.tuple #[])∧aV T Bb MB lv P N F (C++[xs]) (Y++[at_]) at_ B tg w w':=by
 obtain⟨af,av⟩:=at_;have hrow:=h.row;have hTl:=ae hrow;have hBs:B≤w.heap.size:=by have:=(h.lo T (by rw[h.t1];decide));omega
 have c0:=(rowAt hrow 0 rfl).1;have HCL:=zH (xD w h hN ao xs cap hx hok hxl hl);obtain⟨i0,hi0,hi1,hi2,hi3⟩:=info_parts vw;clear h hx hok hrow;go_enter func56,ntmps56
 go_upto_region 1 with(go_at_call 101;refine HCL.out.mono ?_;rintro e w2 ⟨rfl,tg2,s2,hw2,hx2,ho2,hk2⟩;have H:=zH hw2;have HX2:=zH hx2;have HO2:=zH ho2;have HK2:=zH hk2;clear hw2 hx2 ho2 hk2)
 clear c0;have hrow2:=H.out.row;have hTl2:=ae hrow2;have HROW2:=zH hrow2;obtain⟨S1,hS1⟩:=zE ((fun w'=>w'.heap[T]?=some (.cells (Ez Bb MB lv s2 P.length Y.length (af,av)) 123 (0,0))):H5→Prop);have hS0:S1 w2.drew:=by rw[←hS1];exact hrow2
 have hsb:∀W,W.heap[T]?=some (.cells (Ez Bb MB lv s2 P.length Y.length (af,av)) 123 (0,0))→S1 W:=fun W h=>by rw[←hS1];exact h
 have hce:∀W,S1 W→W.cell? ⟨T,3,none⟩=some (.slice s2.yA Y.length s2.yC)∧W.cell? ⟨T,4,none⟩=some (.int .i64 af)∧W.cell? ⟨T,5,none⟩=some (.int .i64 av)∧T<W.heap.size:=fun W h=>by rw[←hS1] at h;exact⟨(rowAt h 3 rfl).1,(rowAt h 4 rfl).1,(rowAt h 5 rfl).1,ae h⟩
 have HSB:=zH hsb;have HCE:=zH hce;have hBs2:B≤w2.heap.size:=Nat.le_trans hBs HX2.out.size;clear hS1 hsb hce hrow2 hBs;refine aj 13 S1 (by kernel_rfl) ?_;refine zT 0 rfl HCE.out ?_;(try go_simp);refine zT 1 rfl HCE.out ?_;(try go_simp);refine zT 2 rfl HCE.out ?_;(try go_simp);refine zT 3 rfl HCE.out ?_;(try go_simp);refine zT 4 rfl HCE.out ?_;(try go_simp);refine zT 5 rfl HCE.out ?_;(try go_simp);refine zT 6 rfl HCE.out ?_;(try go_simp);refine zT 7 rfl HCE.out ?_;(try go_simp);refine zT 8 rfl HCE.out ?_;(try go_simp);refine zO 9 rfl fun K' hK=> ?_;go_simp;obtain⟨G,hG⟩:=zE w2.heap.size;obtain⟨W8,hW8⟩:=zE ((w2.alloc (.cells #[.int .i64 af,.int .i64 av] 121)).drew);(try rw[hG]);(try rw[hW8]);have hb8:H9 w2.heap.size w2 W8:=by rw[←hW8];exact((Hw _ _).alloc (He _) _).drew
 have hrG:W8.heap[G]?=some (.cells #[.int .i64 af,.int .i64 av] 121 (0,0)):=by rw[←hW8,←hG];exact alloc_at _ _
 have hrow8:=(hb8.block T hTl2).trans HROW2.out;refine hK _ _ (HSB.out _ hrow8) ?_;clear hK;(try go_simp);refine zO 10 rfl fun K' hK=> ?_;have hmk8:=H.out.grow hb8;have hB8:B≤W8.heap.size:=Nat.le_trans hBs2 hb8.size;refine aF (.tmp 14) (.tmp 19) 119 rfl B 121 i0 _ 2 16 underlying119 hi0 hi1 hi2 hi3 rfl (by decide) (.slice s2.yA Y.length s2.yC) Y.length (Y.flatMap su) rfl hmk8.yrow (some ⟨G,0,none⟩) 1 1 [.int .i64 af,.int .i64 av] rfl rfl (fun h=>by cases h) (fun ad had jj uu hu=>by
  obtain rfl:(⟨G,0,none⟩:Addr)=ad:=by simpa using had
  rw[Addr.add_lit,Hf,cell_of_row _ _ _ _ _ _ hrG];simpa using hu) (by simp[Value.oneCell']) (by unfold maxLen;omega) (by omega) hB8 ?_
 intro v9 w9 hown9 hgr9 hat9;obtain⟨ao9,c9,hv9⟩:=aD hown9;subst hv9;have hx9:Ext (fun q=>(Value.slice s2.yA Y.length s2.yC).ownBlock=some q) W8 w9:=Ext.of_grown hgr9 (fun q hq=> .inl hq);have hrow9:=hx9.heap hrow8 (fun e=>by have:=H.out.t6 _ e;have:=H.out.t1;omega);have hS9:S1 w9:=HSB.out _ hrow9;have hfz:=(rowAt hrow9 3 rfl).2;have hcl:=(rowAt hrow9 3 rfl).1;have hT9:=ae hrow9;refine hK _ _ hS9 ?_;clear hK;(try go_simp);refine zT 11 rfl HCE.out ?_;(try go_simp);refine zT 12 rfl HCE.out ?_;(try go_simp);refine zK rfl fun K' hK=> ?_;go_simp;refine hK _ _ ?_;clear hK;refine⟨by kernel_rfl, ?_⟩;have hFIN:aV T Bb MB lv P N F (C++[xs]) (Y++[(af,av)]) (af,av) B tg w (w9.setCell ⟨T,3,none⟩ (.slice ao9 (Y.length+1) c9)):=by
  obtain⟨tg3,s3,q1,q2,q3,q4⟩:=F3 H.out hb8 hown9 hgr9 hat9 hly;refine⟨tg3,s3,q1,HX2.out.trans q2 (fun q hq=>HO2.out q hq),fun k hk=> ?_,fun k hk=> ?_⟩
  ·rcases q3 k hk with h|h
   ·exact HO2.out k h
   ·exact .inr (Nat.le_trans HX2.out.size h)
  ·have:=HK2.out k hk
   rw[q4 k (by omega),this]
 have HFIN:=zH hFIN;clear hFIN hown9 hgr9 hat9 hx9 hrow9 hS9 hmk8 hrow8 hrG hW8 hb8 hG;go_wp2
 go_end0
 exact⟨rfl,HFIN.out⟩
end
theorem vE {N:Int}{Bb:Nat}{u:Value}(w:H5)(h:w.heap[Bb]?=some (.cells #[.int .i64 N,u] 191 (0,0)))(hN:0≤N∧N≤9000000):
  Calls prog 139 #[.pointer (some ⟨Bb,0,none⟩)] w fun e w'=>e= .returned (.int .i64 (N+1))∧w.setCell ⟨Bb,0,none⟩ (.int .i64 (N+1))=w':=by
 have c0:=(rowAt h 0 rfl).1;have f0:=(rowAt h 0 rfl).2;have hl:=ae h;have HR:=zH (Hz w Bb 0 _ _ (.int .i64 (N+1)) h);clear h;go_enter func139,ntmps139;go_wp2;go_ret;exact⟨rfl,rfl⟩
section
variable {T Bb MB:Nat}{lv:Option Addr×Nat}{P:List (Int×Int)}{N:Int}{F:Int×Int→Int}{C:List (List Int)}{Y:List (Int×Int)}{at_:Int×Int}{B:Nat}{tg:Nat→Nat}{s:nU}
theorem xE (w:H5)(h:Wn T Bb MB lv P N F C Y at_ B tg s w)(f v:Int)(hf:bG f)(hv:bG v)(a1 a2:Option Addr)(n1 n2 c1 c2:Nat)(tp:Option Addr):
  zP 107 #[.agg #[.pointer (some ⟨T,0,none⟩),.int .i64 f,.slice a1 n1 c1,.slice a2 n2 c2,.pointer tp],.int .i64 v] w (.int .i64 (F (f,v))):=by
 obtain⟨D,hD⟩:=zE w.heap.size;obtain⟨W1,hW1⟩:=zE (w.alloc (.cells #[.pointer (some ⟨T,0,none⟩),.int .i64 f,.slice a1 n1 c1,.slice a2 n2 c2,.pointer tp] 129));have hb1:=gK hW1;have hr1:W1.heap[D]?=some (.cells #[.pointer (some ⟨T,0,none⟩),.int .i64 f,.slice a1 n1 c1,.slice a2 n2 c2,.pointer tp] 129 (0,0)):=by rw[←hW1,←hD];exact alloc_at _ _
 have h1:=h.grow hb1;obtain⟨S1,hS1⟩:=zE ((fun w'=>w'=W1.drew):H5→Prop);have hS0:S1 W1.drew:=by rw[←hS1]
 have h1d:=h1.grow (Hw _ _).drew;have hlk:∀W,S1 W→(Instr.lookup 118 (.map (some MB)) (.agg #[.int .i64 f,.int .i64 v]) false).run prog W= .ok (.int .i64 (F (f,v))) W:=fun W hW=>by
  rw[←hS1] at hW;subst hW;exact h1d.map.look hf hv
 have hce:∀W,S1 W→W.cell? ⟨D,0,none⟩=some (.pointer (some ⟨T,0,none⟩))∧W.cell? ⟨D,1,none⟩=some (.int .i64 f)∧W.cell? ⟨T,2,none⟩=some (.map (some MB))∧T<W.heap.size:=fun W hW=>by
  rw[←hS1] at hW;subst hW;exact⟨(rowAt (W:=W1.drew) (show W1.drew.heap[D]?=_ from hr1) 0 rfl).1,(rowAt (W:=W1.drew) (show W1.drew.heap[D]?=_ from hr1) 1 rfl).1,(rowAt h1d.row 2 rfl).1,ae h1d.row⟩
 have HSE:Ia (∀W,S1 W→W=W1.drew):=fun W hW=>by rw[←hS1] at hW;exact hW
 have HLK:=zH hlk;have HCE:=zH hce;have HW1:=zH hW1;have HB1:=zH hb1;clear h hW1 hb1 hr1 h1 h1d hS1 hlk hce;go_enter func107,ntmps107
 go_upto_region 1 with(fail)
 rw[HW1.out];refine aj 10 S1 (by kernel_rfl) ?_;refine zT 0 rfl (fun w h=>And.intro (HCE.out w h) (HLK.out w h)) ?_;(try go_simp);refine zT 1 rfl (fun w h=>And.intro (HCE.out w h) (HLK.out w h)) ?_;(try go_simp);refine zT 2 rfl (fun w h=>And.intro (HCE.out w h) (HLK.out w h)) ?_;(try go_simp);refine zT 3 rfl (fun w h=>And.intro (HCE.out w h) (HLK.out w h)) ?_;(try go_simp);refine zT 4 rfl (fun w h=>And.intro (HCE.out w h) (HLK.out w h)) ?_;(try go_simp);refine zT 5 rfl (fun w h=>And.intro (HCE.out w h) (HLK.out w h)) ?_;(try go_simp);refine zT 6 rfl (fun w h=>And.intro (HCE.out w h) (HLK.out w h)) ?_;(try go_simp);refine zT 7 rfl (fun w h=>And.intro (HCE.out w h) (HLK.out w h)) ?_;(try go_simp);refine zT 8 rfl (fun w h=>And.intro (HCE.out w h) (HLK.out w h)) ?_;(try go_simp);refine zT 9 rfl (fun w h=>And.intro (HCE.out w h) (HLK.out w h)) ?_;(try go_simp);refine zK rfl fun K' hK=> ?_;go_simp;refine hK _ _ ?_;clear hK;refine⟨by kernel_rfl, ?_⟩;have hbd:H9 w.heap.size w W1.drew:=HB1.out.drew;have HBD:=zH hbd;clear hbd hS0;go_wp2;go_ret;exact⟨rfl,HBD.out⟩
theorem kw (w:H5)(h:Wn T Bb MB lv P N F C Y at_ B tg s w)(hN:0≤N∧N≤9000000)(f v:Int)(hf:bG f)(hv:bG v)(hF:0≤F (f,v)∧F (f,v)≤9000000)(a1 a2:Option Addr)(n1 n2 c1 c2:Nat)(tp:Option Addr)(ao:Option Addr)(xs:List Int)(cap:Nat)(hx:ak w ao xs)(hno:ao=none→cap=0)(hcap:cap<xs.length+2)
  (hok:(xs++[F (f,v),F (f,v)+1]).all (bH N)=true)(hxl:xs.length≤70000)(hl:C.length+1≤1000000)(hly:Y.length+1≤1000000):
  Calls prog 106 #[.agg #[.pointer (some ⟨T,0,none⟩),.int .i64 f,.slice a1 n1 c1,.slice a2 n2 c2,.pointer tp],.int .i64 v,.slice ao xs.length cap] w fun e w'=>e= .returned (.tuple #[])∧aV T Bb MB lv P N F (C++[xs++[F (f,v),F (f,v)+1]]) (Y++[at_]) at_ B tg w w':=by
 obtain⟨D,hD⟩:=zE w.heap.size;obtain⟨W1,hW1⟩:=zE (w.alloc (.cells #[.pointer (some ⟨T,0,none⟩),.int .i64 f,.slice a1 n1 c1,.slice a2 n2 c2,.pointer tp] 129));have hb1:=gK hW1;have hr1:W1.heap[D]?=some (.cells #[.pointer (some ⟨T,0,none⟩),.int .i64 f,.slice a1 n1 c1,.slice a2 n2 c2,.pointer tp] 129 (0,0)):=by rw[←hW1,←hD];exact alloc_at _ _
 have h1:=h.grow hb1;have hx1:=hx.below hb1;obtain⟨S1,hS1⟩:=zE ((fun w'=>H9 W1.heap.size W1 w'):H5→Prop);have hS0:S1 W1.drew:=by rw[←hS1];exact(Hw _ _).drew
 have hss:∀W,S1 W→H9 W1.heap.size W1 W:=fun W hW=>by rw[←hS1] at hW;exact hW
 have hsb:∀W,H9 W1.heap.size W1 W→S1 W:=fun W hW=>by rw[←hS1];exact hW
 have hDl:=ae hr1;have hce:∀W,S1 W→W.cell? ⟨D,0,none⟩=some (.pointer (some ⟨T,0,none⟩))∧W.cell? ⟨D,1,none⟩=some (.int .i64 f)∧W.cell? ⟨D,2,none⟩=some (.slice a1 n1 c1)∧W.cell? ⟨D,3,none⟩=some (.slice a2 n2 c2)∧W.cell? ⟨D,4,none⟩=some (.pointer tp)∧D<W.heap.size:=fun W hW=>by
  have r:=((hss W hW).block D hDl).trans hr1;exact⟨(rowAt r 0 rfl).1,(rowAt r 1 rfl).1,(rowAt r 2 rfl).1,(rowAt r 3 rfl).1,(rowAt r 4 rfl).1,ae r⟩
 have HO:Ia (∀W,H9 W1.heap.size W1 W→zP 107 #[.agg #[.pointer (some ⟨T,0,none⟩),.int .i64 f,.slice a1 n1 c1,.slice a2 n2 c2,.pointer tp],.int .i64 v] W (.int .i64 (F (f,v)))):=fun W hW=>xE W (h1.grow hW) f v hf hv a1 a2 n1 n2 c1 c2 tp;have HCE:=zH hce;have HSB:=zH hsb;have H1:=zH h1;have HX1:=zH hx1;have HW1:=zH hW1;have HB1:=zH hb1;have HOK:=zH hok;obtain⟨i0,hi0,hi1,hi2,hi3⟩:=info_parts iP;obtain⟨z,hz⟩:=zE (F (f,v));rw[hz] at HO HOK hF⊢;have hwz:IntKind.i64.wrap (z+1)=z+1:=by simp[IntKind.wrap,IntKind.bits,IntKind.signed];omega
 clear h hx hW1 hb1 hr1 h1 hx1 hS1 hss hsb hce hok hz;go_enter func106,ntmps106
 go_upto_region 1 with(fail)
 rw[HW1.out];refine aj 12 S1 (by kernel_rfl) ?_;refine zT 0 rfl HCE.out ?_;(try go_simp);refine zT 1 rfl HCE.out ?_;(try go_simp);refine zT 2 rfl HCE.out ?_;(try go_simp);refine zT 3 rfl HCE.out ?_;(try go_simp);refine zT 4 rfl HCE.out ?_;(try go_simp);refine zT 6 rfl HCE.out ?_;(try go_simp);refine zT 7 rfl HCE.out ?_;(try go_simp);refine zO 5 rfl fun K' hK=> ?_;go_simp;go_at_call 107;refine(HO.out W1.drew (Hw _ _).drew).mono ?_;rintro e w5 ⟨rfl,hb5⟩;have hb15:H9 W1.heap.size W1 w5:=(Hw _ _).drew.trans hb5;have hS5:S1 w5:=HSB.out _ hb15;refine hK _ _ hS5 ?_;clear hK;(try go_simp);refine zO 8 rfl fun K' hK=> ?_;go_simp;go_at_call 107;refine(HO.out w5 hb15).mono ?_;rintro e w6 ⟨rfl,hb6⟩;have hb16:H9 W1.heap.size W1 w6:=hb15.trans (hb6.mono hb15.size);have hS6:S1 w6:=HSB.out _ hb16;refine hK _ _ hS6 ?_;clear hK;(try go_simp);refine zT 9 rfl HCE.out ?_;(try go_simp);refine zO 10 rfl fun K' hK=> ?_;go_simp;obtain⟨G,hG⟩:=zE w6.heap.size;obtain⟨W8,hW8⟩:=zE (w6.alloc (.cells #[.int .i64 z,.int .i64 (z+1)] 3));(try rw[hG]);(try rw[hW8]);have hb8:=gK hW8;have hb18:H9 W1.heap.size W1 W8:=hb16.trans (hb8.mono hb16.size);have hrG:W8.heap[G]?=some (.cells #[.int .i64 z,.int .i64 (z+1)] 3 (0,0)):=by rw[←hW8,←hG];exact alloc_at _ _
 (try rw[hwz]);(try rw[hW8]);refine hK _ _ (HSB.out _ hb18) ?_;clear hK;(try go_simp);refine zO 11 rfl fun K' hK=> ?_;have hx8:=HX1.out.below hb18;refine bI (.tmp 8) (.tmp 16) 35 rfl 3 i0 _ 1 8 underlying35 hi0 hi1 hi2 hi3 rfl (by decide) ao xs.length cap (xs.map (Value.int .i64)) rfl (fun h=>⟨by have:=hx8;rw[h] at this;rw[this.nil_of_none];rfl,hno h⟩) (by simp) (fun b hb j u hu=>by
  rw[List.getElem?_map] at hu;obtain⟨y,hy,rfl⟩:=Option.map_eq_some_iff.1 hu;obtain⟨g,off,e1,_,e3⟩:=hx8 (by intro e;rw[e] at hy;simp at hy);rw[hb] at e1;obtain rfl:=Hl e1;rw[Addr.add_lit];exact e3 j y hy) ⟨G,0,none⟩ 2 2 [.int .i64 z,.int .i64 (z+1)] rfl rfl (fun jj uu hu=>by rw[Addr.add_lit,Hf,cell_of_row _ _ _ _ _ _ hrG];simpa using hu) (by simp[Value.oneCell']) hcap (by unfold maxLen;omega) (by omega) ?_
 intro v9 w9 hown9 hgr9;have hb9:H9 W8.heap.size W8 w9:=(Ext.of_grown (M:=fun _=>False) hgr9 (fun q hq=>by cases hq)).below (He _) (fun q h=>h.elim);have hb19:H9 W1.heap.size W1 w9:=hb18.trans (hb9.mono hb18.size);obtain⟨ao9,c9,hv9⟩:=aD hown9;subst hv9;have ho9:aU w9 W8.heap.size (.slice ao9 (xs.length+2) c9) (xs++[z,z+1]):=by unfold aU;simpa using hown9
 have hat9:=ho9.at_;refine hK _ _ (HSB.out _ hb19) ?_;clear hK;(try go_simp);refine zK rfl fun K' hK=> ?_;go_simp;have HPUT:Ia (Calls prog 56 #[.pointer (some ⟨T,0,none⟩),.slice ao9 (xs.length+2) c9] w9 fun e w'=>e= .returned (.tuple #[])∧aV T Bb MB lv P N F (C++[xs++[z,z+1]]) (Y++[at_]) at_ B tg w9 w'):=by
  unfold Ia;have:=iO w9 (H1.out.grow hb19) hN ao9 (xs++[z,z+1]) c9 hat9 HOK.out (by simp;omega) hl hly;simpa using this
 have hbw9:H9 w.heap.size w w9:=HB1.out.trans (hb19.mono HB1.out.size);have HBW:=zH hbw9;go_at_call 56;refine HPUT.out.mono ?_;rintro e w10 ⟨rfl,hmv⟩;refine hK _ _ ?_;clear hK;refine⟨by kernel_rfl, ?_⟩;have HFIN:=zH (aV.below HBW.out hmv);clear hmv hbw9 hown9 hgr9 hb9 hb19 ho9 hat9 hx8 hrG hW8 hb8 hb18 hb6 hb16 hb5 hb15 hS0 hG hS5 hS6;go_wp2
 go_end0
 exact⟨rfl,HFIN.out⟩
end
structure lQ (w:H5)(T RB:Nat)(c:dQ)(b:Nat→Nat→Nat):Prop where
 tab:∃RA,w.heap[T]?=some (.cells (gy c RA RB) 196 (0,0))
 behind:w.heap[RB]?=some (.cells (dL c.ins.length ((c.nvars+63)/64) RB c.ins.length) 199 (0,0))
 words:∀x,x<c.ins.length→bP w (RB+1+x) ((c.nvars+63)/64) (b x)
 ltB:∀x j,b x j<18446744073709551616
 says:∀x v,x<c.ins.length→v<c.nvars→(aY (b x) v=true↔eD c.ins v x)
theorem lQ.of {w:H5}{T RA RB:Nat}{c:dQ}{a b:Nat→Nat→Nat}(h:Eh w T RA RB c a b):lQ w T RB c b:=
 ⟨⟨RA,h.tab.tab⟩,h.tab.behind,h.tab.words,h.ltB,fun x v hx hv=>(h.says x v hx hv).1⟩
theorem lQ.ext {w w':H5}{T RB:Nat}{c:dQ}{b:Nat→Nat→Nat}{M:Nat→Prop}(h:lQ w T RB c b)(hx:Ext M w w')(hT:¬M T)(hR:∀k,RB≤k→k≤RB+c.ins.length→¬M k):lQ w' T RB c b:=by
 obtain⟨RA,h1⟩:=h.tab;exact⟨⟨RA,hx.heap h1 hT⟩,hx.heap h.behind (hR _ (He _) (by omega)),fun x hx'=>(h.words x hx').ext hx (hR _ (by omega) (by omega)),h.ltB,h.says⟩
theorem lQ.below {w w':H5}{T RB:Nat}{c:dQ}{b:Nat→Nat→Nat}(h:lQ w T RB c b)(hb:H9 w.heap.size w w'):lQ w' T RB c b:=
 h.ext (Ext.of_below_size (M:=fun _=>False) hb) (fun h=>h) (fun _ _ _ h=>h)
def InT (c:dQ)(at_ v:Int):Prop:=0≤at_∧at_<(c.ins.length:Int)∧0≤v∧v<(c.nvars:Int)
instance (c:dQ)(at_ v:Int):Decidable (InT c at_ v):=by unfold InT;infer_instance
theorem CY (w:H5)(T RB:Nat)(c:dQ)(b:Nat→Nat→Nat)(at_ v:Int)(h:lQ w T RB c b):
  zS 147 #[.pointer (some ⟨T,0,none⟩),.int .i64 at_,.int .i64 v] w (.bool (decide (InT c at_ v))):=by
 obtain⟨RA,ht⟩:=h.tab;have c2:=zR ht 2 (.slice c.varsA c.nvars c.varsC);have c8:=zR ht 8 (.slice (some ⟨RA,0,none⟩) c.ins.length c.ins.length);obtain⟨bb,hbb⟩:=zE (decide (InT c at_ v));rw[hbb];have HBB:=zH hbb;clear h ht hbb
 by_cases h1:0≤at_
 ·by_cases h2:at_<(c.ins.length:Int)
  ·by_cases h3:0≤v
   ·by_cases h4:v<(c.nvars:Int)
    ·have HE:Ia (bb=true):=by unfold Ia;rw[←HBB.out];exact decide_eq_true ⟨h1,h2,h3,h4⟩
     go_enter func147,ntmps147;go_wp2;go_ret;exact⟨by rw[HE.out];rfl,rfl⟩
    ·have HE:Ia (bb=false):=by unfold Ia;rw[←HBB.out];exact decide_eq_false (fun h=>h4 h.2.2.2)
     have hd:decide (v<(c.nvars:Int))=false:=decide_eq_false h4;clear h4;go_enter func147,ntmps147;go_wp2;go_ret;exact⟨by rw[HE.out];rfl,rfl⟩
   ·have HE:Ia (bb=false):=by unfold Ia;rw[←HBB.out];exact decide_eq_false (fun h=>h3 h.2.2.1)
    have hd:decide (0≤v)=false:=decide_eq_false h3;clear h3;go_enter func147,ntmps147;go_wp2;go_ret;exact⟨by rw[HE.out];rfl,rfl⟩
  ·have HE:Ia (bb=false):=by unfold Ia;rw[←HBB.out];exact decide_eq_false (fun h=>h2 h.2.1)
   have hd:decide (at_<(c.ins.length:Int))=false:=decide_eq_false h2;clear h2;go_enter func147,ntmps147;go_wp2;go_ret;exact⟨by rw[HE.out];rfl,rfl⟩
 ·have HE:Ia (bb=false):=by unfold Ia;rw[←HBB.out];exact decide_eq_false (fun h=>h1 h.1)
  have hd:decide (0≤at_)=false:=decide_eq_false h1;clear h1;go_enter func147,ntmps147;go_wp2;go_ret;exact⟨by rw[HE.out];rfl,rfl⟩
theorem mK (w:H5)(T RB:Nat)(c:dQ)(b:Nat→Nat→Nat)(x v:Nat)(h:lQ w T RB c b)(hx:x<c.ins.length)(hv:v<c.nvars)(hn:c.ins.length≤90000)(hnv:c.nvars≤90000):
  zS 108 #[.pointer (some ⟨T,0,none⟩),.int .i64 (x:Int),.int .i64 (v:Int)] w (.bool (aY (b x) v)):=by
 have hI:=CY w T RB c b x v h;rw[decide_eq_true (show InT c x v from⟨by omega,by omega,by omega,by omega⟩)] at hI;have HI:=zH hI;obtain⟨RA,ht⟩:=h.tab;have c8:=zR ht 9 (.slice (some ⟨RB,0,none⟩) c.ins.length c.ins.length);have c9:w.cell? ⟨RB,x,none⟩=some (.slice (some ⟨RB+1+x,0,none⟩) ((c.nvars+63)/64) ((c.nvars+63)/64)):=by
  rw[cell_of_row _ _ _ _ _ _ h.behind,dS _ _ _ hx,if_pos hx]
 have HH:=zH (xn w (RB+1+x) ((c.nvars+63)/64) ((c.nvars+63)/64) v (b x) (h.words x hx) (fun i=>h.ltB x i) (by omega) (by omega));have hxI:(x:Int)<(c.ins.length:Int):=by omega
 clear hI h ht;go_enter func108,ntmps108
 go_wp2_with (first|(go_at_call 147;refine HI.out.mono ?_;rintro e w2 ⟨rfl,rfl⟩)|(go_at_call 148;refine HH.out.mono ?_;rintro e w3 ⟨rfl,rfl⟩))
 go_ret;exact⟨rfl,rfl⟩
structure Bq (w:H5)(TT RB:Nat)(c:dQ)(b:Nat→Nat→Nat)(tg:Nat→Nat)(hi:Nat):Prop where
 tab:lQ w TT RB c b
 lt1:TT<hi
 lt2:RB+c.ins.length<hi
 lt3:hi≤w.heap.size
 z1:tg TT=0
 z2:∀k,RB≤k→k<hi→tg k=0
structure As (T Bb MB:Nat)(lv:Option Addr×Nat)(P:List (Int×Int))(N:Int)(F:Int×Int→Int)(C:List (List Int))(Y:List (Int×Int))(at_:Int×Int)(B:Nat)(tg:Nat→Nat)(s:nU)(w0:H5)(TT RB:Nat)(c:dQ)(b:Nat→Nat→Nat)(hi:Nat)(w:H5):Prop where
 wn:Wn T Bb MB lv P N F C Y at_ B tg s w
 tz:Bq w TT RB c b tg hi
 lo:H9 B w0 w
 hB:w0.heap.size=B
section
variable {T Bb MB:Nat}{lv:Option Addr×Nat}{P:List (Int×Int)}{N:Int}{F:Int×Int→Int}{C C2:List (List Int)}{Y Y2:List (Int×Int)}{at_ at2:Int×Int}{B:Nat}{tg:Nat→Nat}{s:nU}{w0 w w':H5}{TT RB hi:Nat}{c:dQ}{b:Nat→Nat→Nat}
theorem Bq.grow (h:Bq w TT RB c b tg hi)(hb:H9 w.heap.size w w'):Bq w' TT RB c b tg hi:=⟨h.tab.below hb,h.lt1,h.lt2,Nat.le_trans h.lt3 hb.size,h.z1,h.z2⟩
theorem Bq.mv {tg':Nat→Nat}(h:Bq w TT RB c b tg hi)(hx:Ext (fun q=>tg q≠0) w w')(ho:∀k,tg' k≠0→tg k≠0∨w.heap.size≤k):Bq w' TT RB c b tg' hi:=by
 have h3:=h.lt3;have h1:=h.lt1;have h2:=h.lt2;refine⟨h.tab.ext hx (fun e=>e h.z1) (fun k hk hl e=>e (h.z2 k hk (by omega))),h.lt1,h.lt2,Nat.le_trans h.lt3 hx.size, ?_,fun k hk hl=> ?_⟩
 ·cases hz:tg' TT with
  |zero=>rfl
  |succ q=>
   rcases ho TT (by omega) with e|e
   ·exact absurd h.z1 e
   ·omega
 ·cases hz:tg' k with
  |zero=>rfl
  |succ q=>
   rcases ho k (by omega) with e|e
   ·exact absurd (h.z2 k hk hl) e
   ·omega
theorem As.grow (h:As T Bb MB lv P N F C Y at_ B tg s w0 TT RB c b hi w)(hb:H9 w.heap.size w w'):As T Bb MB lv P N F C Y at_ B tg s w0 TT RB c b hi w':=
 ⟨h.wn.grow hb,h.tz.grow hb,h.lo.trans (hb.mono (by have:=(h.wn.lo T (by rw[h.wn.t1];decide));omega)),h.hB⟩
theorem As.mv (h:As T Bb MB lv P N F C Y at_ B tg s w0 TT RB c b hi w)(hm:aV T Bb MB lv P N F C2 Y2 at2 B tg w w'):∃tg' s',As T Bb MB lv P N F C2 Y2 at2 B tg' s' w0 TT RB c b hi w'∧Ext (fun q=>tg q≠0) w w'∧(∀k,tg' k≠0→tg k≠0∨w.heap.size≤k)∧∀k,tg k≠0→tg' k=tg k:=by
 obtain⟨tg',s',h1,h2,h3,h4⟩:=hm;exact⟨tg',s',⟨h1,h.tz.mv h2 h3,h.lo.trans (h2.below (by have:=(h.wn.lo T (by rw[h.wn.t1];decide));omega) (fun q hq=>(h.wn.lo q hq).1)),h.hB⟩,h2,h3,h4⟩
theorem As.ints (h:As T Bb MB lv P N F C Y at_ B tg s w0 TT RB c b hi w){ao:Option Addr}{xs:List Int}(hx:ak w0 ao xs):ak w ao xs:=hx.below (by rw[h.hB];exact h.lo)
theorem oK {tg1:Nat→Nat}{w1:H5}(hx:Ext (fun q=>tg q≠0) w w1)(ho:∀k,tg1 k≠0→tg k≠0∨w.heap.size≤k)(hk:∀k,tg k≠0→tg1 k=tg k)(h:aV T Bb MB lv P N F C2 Y2 at2 B tg1 w1 w'):aV T Bb MB lv P N F C2 Y2 at2 B tg w w':=by
 obtain⟨tg2,s2,b1,b2,b3,b4⟩:=h;refine⟨tg2,s2,b1,hx.trans b2 (fun q hq=>ho q hq),fun k hk'=> ?_,fun k hk'=> ?_⟩
 ·rcases b3 k hk' with h|h
  ·exact ho k h
  ·exact .inr (Nat.le_trans hx.size h)
 ·have:=hk k hk'
  rw[b4 k (by omega),this]
end
theorem kY {f:Nat→Bool}{j:Nat}(hz:∀k,k<j→f k=false)(hj:f j=false):∀k,k<j+1→f k=false:=fun k hk=>by
 by_cases e:k=j
 ·rw[e];exact hj
 ·exact hz k (by omega)
section
variable {T Bb MB:Nat}{lv:Option Addr×Nat}{P:List (Int×Int)}{N:Int}{F:Int×Int→Int}{C:List (List Int)}{Y:List (Int×Int)}{at_:Int×Int}{B:Nat}{tg:Nat→Nat}{s:nU}{w0:H5}{TT RB hi:Nat}{c:dQ}{b:Nat→Nat→Nat}
def aW (b:Nat→Nat→Nat)(k:Nat)(v:Int):Bool:=aY (b k) v.toNat
theorem zB (w:H5)(h:As T Bb MB lv P N F C Y at_ B tg s w0 TT RB c b hi w)(f:Int)(a1 a2:Option Addr)(n1 n2 c1 c2:Nat)(i:Ins)(ga:Option Addr)(gc:Nat)(hia:i.argsV= .slice ga i.args.length gc)(hmo:∃ao n cap,i.modeV= .slice ao n cap)(hga:ak w0 ga i.args)(hal:i.args.length≤40)
  (n:Nat)(v:Int)(hn:i.args[n]?=some v)(k:Nat)(hk:k<c.ins.length)(hv:isVar c.nvars v=true)(hnl:c.ins.length≤90000)(hnv:c.nvars≤90000):
  zP 195 #[.agg #[.pointer (some ⟨T,0,none⟩),.int .i64 f,.slice a1 n1 c1,.slice a2 n2 c2,.pointer (some ⟨TT,0,none⟩)],.agg i.cells,.int .i64 (n:Int),.int .i64 (k:Int)] w (.bool (eG (aW b k) i.d i.args n v)):=by
 obtain⟨vn,rfl⟩:∃vn:Nat,v=(vn:Int):=⟨v.toNat,by have:=(bO.1 hv).1;omega⟩
 have hvn:vn<c.nvars:=by have:=(bO.1 hv).2;omega
 obtain⟨D,hD⟩:=zE w.heap.size;obtain⟨W1,hW1⟩:=zE ((w.alloc (.cells #[.pointer (some ⟨T,0,none⟩),.int .i64 f,.slice a1 n1 c1,.slice a2 n2 c2,.pointer (some ⟨TT,0,none⟩)] 129)).alloc (.cells i.cells 42));have hb1:=EA hW1;have hr0:=xV hW1 hD;have hr1:=zV hW1 hD;have hs1:W1.heap.size=D+2:=by rw[←hW1];simp[hD]
 have h1:=h.grow hb1;have hint:=h1.ints hga;obtain⟨mo,mn,mc,hmode⟩:=hmo;obtain⟨op,d,a,bb,ff,nn,sign,argsV,modeV,tgt,els,ln,cl,args⟩:=i;simp only at hia hmode hn hal hint⊢;subst hia hmode;simp only[Ins.cells] at hW1 hr1⊢;have q7:W1.cell? ⟨D+1,7,none⟩=some (.slice ga args.length gc):=(rowAt hr1 7 rfl).1;have q1:W1.cell? ⟨D+1,1,none⟩=some (.int .i64 d):=(rowAt hr1 1 rfl).1;have p4:W1.cell? ⟨D,4,none⟩=some (.pointer (some ⟨TT,0,none⟩)):=(rowAt hr0 4 rfl).1;have hne:args≠[]:=by intro e;rw[e] at hn;simp at hn
 obtain⟨g,off,rfl,hg,hgc⟩:=hint hne;have e1:=hgc n _ hn;have hnlen:n<args.length:=(GQ.1 hn).1;have hnI:(n:Int)<(args.length:Int):=by omega
 have HBE:=zH (mK W1 TT RB c b k vn h1.tz.tab hk hvn hnl hnv);have HAR:Ia (eG (aW b k) d args n (vn:Int)=(((List.range args.length).any fun j=>decide (j≠n)&&args.getD j 0==(vn:Int))||(decide ((vn:Int)≠d)&&aY (b k) vn))):=by unfold Ia eG aW;simp
 have HGC:Ia (∀(i:Nat)(z:Int),args[i]?=some z→W1.cell? ⟨g,off+i,none⟩=some (.int .i64 z)):=hgc;have HW1:=zH hW1;have HB1:=zH hb1;have HN:=zH hn;have hD2:D+1<W1.heap.size:=by omega
 clear h hW1 hb1 hr0 hr1 hs1 h1 hint hga hgc hn;go_enter func195,ntmps195
 go_upto_region 1 with(fail)
 rw[HW1.out]
 go_upto_region 3 with(fail)
 go_loopw [20] (fun kk wr=>∃j:Nat,j≤args.length∧kk= .int .i64 (j:Int)∧(∀q,q<j→(decide (q≠n)&&args.getD q 0==(vn:Int))=false)∧wr=W1) (fun kk _=>args.length-(intOf kk).toNat)
 case atStart=>exact⟨0,Hg _,rfl,fun q hq=>by omega,rfl⟩
 case round=>
  obtain⟨j,hj,rfl,hz,rfl⟩:=hrel;have HZ:=zH hz;clear hz
  by_cases hjl:j<args.length
  ·obtain⟨y,hy⟩:∃y,args[j]?=some y:=⟨_,GN hjl⟩
   have ey:=HGC.out j y hy;have hjI:(j:Int)<(args.length:Int):=by omega
   have HY:Ia (args.getD j 0=y):=by unfold Ia;rw[List.getD_eq_getElem?_getD,hy];rfl
   clear hy
   by_cases hjn:j=n
   ·have t1:((j:Int)==(n:Int))=true:=by rw[hjn];exact beq_self_eq_true _
    have t2:((j:Int) != (n:Int))=false:=by rw[bne,t1];rfl
    have HX:Ia ((decide (j≠n)&&args.getD j 0==(vn:Int))=false):=by unfold Ia;rw[decide_eq_false (fun h=>h hjn)];rfl
    have HJN:=zH hjn;clear hjn;go_wp2;go_roundw
    case rel=>exact⟨j+1,by omega,by go_num,kY HZ.out HX.out,by first|rfl|trivial⟩
    case measure=>simp[intOf];omega
   ·have t1:((j:Int)==(n:Int))=false:=beq_false_of_ne (by omega)
    have t2:((j:Int) != (n:Int))=true:=by rw[bne,t1];rfl
    by_cases hyv:y=(vn:Int)
    ·have t3:(y==(vn:Int))=true:=by rw[hyv];exact beq_self_eq_true _
     have HX:Ia (((List.range args.length).any fun j=>decide (j≠n)&&args.getD j 0==(vn:Int))=true):=by
      unfold Ia;rw[List.any_eq_true];exact⟨j,by rw[List.mem_range];exact hjl,by rw[decide_eq_true hjn,HY.out,t3];rfl⟩
     clear hyv hjn;go_wp2;go_ret;exact⟨by rw[HAR.out,HX.out];rfl,HB1.out⟩
    ·have t3:(y==(vn:Int))=false:=beq_false_of_ne hyv
     have HX:Ia ((decide (j≠n)&&args.getD j 0==(vn:Int))=false):=by unfold Ia;rw[HY.out,t3,Bool.and_false]
     clear hyv hjn;go_wp2;go_roundw
     case rel=>exact⟨j+1,by omega,by go_num,kY HZ.out HX.out,by first|rfl|trivial⟩
     case measure=>simp[intOf];omega
  ·have hje:j=args.length:=by omega
   have HX:Ia (((List.range args.length).any fun j=>decide (j≠n)&&args.getD j 0==(vn:Int))=false):=by
    unfold Ia;rw[List.any_eq_false];intro q hq;rw[List.mem_range] at hq;rw[HZ.out q (by omega)];simp
   clear hje
   by_cases hvd:(vn:Int)=d
   ·have t1:((vn:Int)==d)=true:=by rw[hvd];exact beq_self_eq_true _
    have t2:((vn:Int) != d)=false:=by rw[bne,t1];rfl
    have HV:Ia ((decide ((vn:Int)≠d)&&aY (b k) vn)=false):=by unfold Ia;rw[decide_eq_false (fun h=>h hvd)];rfl
    clear hvd;go_wp2;go_ret;exact⟨by rw[HAR.out,HX.out,HV.out];rfl,HB1.out⟩
   ·have t1:((vn:Int)==d)=false:=beq_false_of_ne hvd
    have t2:((vn:Int) != d)=true:=by rw[bne,t1];rfl
    have HV:Ia ((decide ((vn:Int)≠d)&&aY (b k) vn)=aY (b k) vn):=by unfold Ia;rw[decide_eq_true hvd];rfl
    clear hvd
    go_wp2_with (go_at_call 108;refine HBE.out.mono ?_;rintro e w2 ⟨rfl,rfl⟩)
    go_ret;exact⟨by rw[HAR.out,HX.out,HV.out];rfl,HB1.out⟩
end
end Go.Proofs.YtjomgckjhcfbgaaGreat
