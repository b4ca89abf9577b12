/- Walks. -/
import Derived.Test.YtjomgckjhcfbgaaGreatProg
import Derived.WalkKit
import Derived.WalkLawsBesides
import Derived.WalkSpells
import Derived.Lib.Hide
import Derived.Laws.CopyOwn
import Derived.Deep.QuietTactic
import Derived.BigQuiet
import Derived.Maps.AppendAt
import Derived.RangeFuncNested
import Derived.RangeFuncBound
import Derived.RangeFuncCalls
import Derived.RangeFuncLeaves
import Derived.Shelf.Abstract
import Derived.OwnWalkIn
import Derived.TacticsInMore
import Derived.LoopNIn
import Derived.LoopIn
import Derived.Deep.AppendLies
import Derived.Deep.LoopGhost
import Derived.Deep.RegionHeld3
import Derived.Deep.DeepCutAuto
import Derived.RegionTactic
import Derived.Laws.OwnMore
import Derived.Laws.IdiomCopy
import Derived.WalkMore
import Derived.Deep.Slices
import Derived.Carry
import Derived.OrdersHeld
import Derived.Deep.RegionHeldLaw
import Derived.Deep.Quiet
import Derived.Laws.ResultCell
import Derived.Deep.WholeRow
set_option maxRecDepth 100000
set_option maxHeartbeats 64000000
set_option linter.all false
namespace Go.Proofs.YtjomgckjhcfbgaaGreat
open Go.RowKit
open Go.Proofs.Tryz renaming prog→ac,underlying40→nl
open Go.RowKit.Below renaming refl→an,heap_alloc→bt,heap_setCell→cH
open _root_ renaming ByteArray→ap,List→bh,Nat→bw,Int→ct,if_neg→cy,Array→cC,beq_eq_false_iff_ne→cL,if_pos→cQ,Option→dr,False→fW,absurd→gC,Bool→iv,iff_of_false→lA,beq_iff_eq→nr
open Go renaming heap_setCell_same→aq,Value→bo,run_storeCells_new→cf,cell_of_row→ci,storeCells→cM,bodyPost_ret→cP,results_cell_row→cV,maxLen→cX,frozen_of_row→dt,run_underlying→dT,Calls→et,heap_alloc2_old→eA,TypeId→eJ,beq_toListBytes→fR,Oper→fY,yielded→gh,heap_alloc2_new→gx,Program→gA,ready_mono→i9,run_loadVar_row→j8,wpIn_wide→lB,bytes→mx,results→mS,wpListIn→nw
open _root_.Array renaming getElem?_eq_some_iff→aw,getElem?_setIfInBounds_ne→fy,replicate→ip,setIfInBounds_comm→kq,any_eq_true'→me,getD_eq_getD_getElem?→nj
open Go.RowKit renaming Below→bj,Hid→cr
open _root_.Nat renaming le_refl→bl,lt_of_lt_of_le→cg,le_trans→cv,zero_add→cJ,zero_le→da,le_succ_of_le→mN
open Go.Value renaming oneCell'→bp,string→dj,int→dv,string→oe,slice→ot,pointer→ox,bool→oy,agg→oA,int→Z
open _root_.List renaming getElem?_eq_some_iff→ca,getElem?_eq_getElem→ce,mem_singleton→co,mem_append→cw,mem_of_getElem?→cA,eq_nil_of_length_eq_zero→db,length_cons→du,mem_cons→eR,length_nil→gO,any_eq_true→ie,any_eq_false→j9,range→ka,take_add_one→kp,length_take→lp,getElem?_take→m5,mem_range→m6,nodup_cons→nh
open Go.Exit renaming inBlock→cD
open Go.Region renaming ready→cG,wanted→cU,binds→dq,noSelect→el,Mode→ey,noSelect_spec→gn,free→gE,free_spec→ij
open Go.Addr renaming add_lit→cI
open _root_.Option.some renaming inj→cN
open Go.Result renaming andThen→eb,andThen_ok→ly
open Go.Fence renaming wide→eq
open Go.Value.slice renaming injEq→ez
open Go.Sem renaming run_bind→fi
open Go.Builtin renaming append_→fj,firstCells→iz,lenOf→lz
open _root_.Bool renaming and_eq_true→fk,true→oc,false→od
open Go.Oper renaming wp→ia
open _root_.ByteArray renaming empty→lk
open _root_.Option renaming any_eq_true→lE,some→oa,none→ob
open Go.Ending renaming returned→m7,returned→oE
open Go.Code renaming region→nt
open Go.Obj renaming cells→oB
open Go.IntKind renaming i64→U
open Tryz
theorem jL:(ac.info? 3).map (λi=>(i.zero,i.size,i.bytes))=oa (oa (Z U 0),1,8):=by kernel_rfl
structure Ext (M:bw->Prop)(w w':World):Prop where
 os:w'.os=w.os
 tape:w'.tape=w.tape
 output:w'.output=w.output
 size:w.heap.size<=w'.heap.size
 block:∀k,k<w.heap.size->¬M k->w'.heap[k]?=w.heap[k]?
def bq (w:World)(base:bw)(v:bo)(xs:bh ct):Prop:=w.ownsRow base 3 1 v xs.length (xs.map (dv .i64))
theorem bq.nil (w:World)(base:bw):bq w base (ot ob 0 0) []:=World.ownsRow_nil _ _ _ _
theorem bq.mono {w:World}{base a:bw}{v:bo}{xs:bh ct}(h:bq w base v xs)(hb:a<=base):bq w a v xs:=by
 refine⟨h.1, ?_⟩;rcases h.2 with h|⟨g,cap,cur,b,f,d⟩
 ·exact .inl h
 ·exact .inr ⟨g,cap,cur,b,by omega,d⟩
theorem bq.shape {w:World}{base n cap:bw}{a:dr Addr}{xs:bh ct}(h:bq w base (ot a n cap) xs)(u:0<xs.length):
  ∃g,a=oa ⟨g,0,ob⟩/\base<=g/\g<w.heap.size/\∀(k:bw)(z:ct),xs[k]?=oa z->w.cell? ⟨g,k,ob⟩=oa (Z U z):=by
 rcases h.2 with⟨b,d⟩|⟨g,v,cur,b,d,f,y,A,D,o⟩
 ·omega
 ·have q:a=oa ⟨g,0,ob⟩:=by simp only[ez] at b;exact b.1
  refine⟨g,q,d,(aw.1 f).1,λk z j=> ?_⟩;rw[ci w g k cur _ _ f];have G:k<xs.length:=(ca.1 j).1;have e:(cur.toList.take (xs.length*1))[k]?=oa (Z U z):=by rw[o];simp[j]
  rw[m5,cQ (by omega)] at e;simpa using e
theorem bq.app {w:World}{base:bw}{v:bo}{xs:bh ct}{z:ct}(h:w.ownsRow base 3 1 v (xs.length+1) (xs.map (dv .i64)++[Z U z])):bq w base v (xs++[z]):=by
 unfold bq;simpa using h
theorem bq.isSlice {w:World}{base:bw}{v:bo}{xs:bh ct}(h:bq w base v xs):∃b cap,v= ot b xs.length cap:=by
 rcases h.2 with⟨a,d⟩|⟨g,cap,cur,a,_⟩
 ·exact⟨ob,0,by rw[d];exact a⟩
 ·exact⟨_,_,a⟩
theorem dx {α:Type}{xs:bh α}{k:bw}{z:α}(h:xs[k]?=oa z):xs.take (k+1)=xs.take k++[z]:=by
 rw[kp,h];rfl
structure Ins where
 op:ct
 d:ct
 a:ct
 b:ct
 f:ct
 n:ct
 sign:ap
 argsV:bo
 modeV:bo
 tI:ct
 els:ct
 ln:ct
 cl:ct
 args:bh ct
def Ins.cells (i:Ins):cC bo:=#[Z U i.op,Z U i.d,Z U i.a,Z U i.b,Z U i.f,Z U i.n,oe i.sign,i.argsV,i.modeV,Z U i.tI,Z U i.els,Z U i.ln,Z U i.cl]
def xW (w:World)(xs:bh ct)(e:Ending)(w':World):Prop:=
 ∃a cap,e= oE (ot a xs.length cap)/\bq w' w.heap.size (ot a xs.length cap) xs/\bj w.heap.size w w'
theorem ownsRow_below {w w':World}{base:bw}{e:eJ}{size:bw}{v:bo}{n:bw}{xs:bh bo}(h:w.ownsRow base e size v n xs)(hb:bj w.heap.size w w'):w'.ownsRow base e size v n xs:=by
 refine⟨h.1, ?_⟩;rcases h.2 with b|⟨g,cap,cur,d,f,a,j⟩
 ·exact .inl b
 ·exact .inr ⟨g,cap,cur,d,f,(hb.block g (aw.1 a).1).trans a,j⟩
theorem wW (w:World)(a:bh bo)(t:eJ):∀j u,a[j]?=oa u->(w.alloc (oB a.toArray t)).cell? ((⟨w.heap.size,0,ob⟩:Addr).add j)=oa u:=by
 intro j u h;rw[cI,cJ,World.cell?_alloc_new];simpa using h
theorem iJ {P:gA}(w:World)(f:Addr)(b:eJ)(a:cC bo)(d:TypeDesc)(q:∀j u,a.toList[j]?=oa u->w.cell? (f.add j)=oa u)
  (v:P.underlying b=oa d)(D:(match d with| .struct _| .array _ _=>oc|_=>od)=oc)(h:(P.info? b).map (·.size)=oa a.size):
  (loadVar b f).run P w= .ok (oA a) w:=by
 have o:(loadCells f a.toList.length).run P w= .ok a.toList.toArray w:=run_loadCells_list (P:=P) w f a.toList q;cases g:P.info? b with
 |none=>simp[g] at h
 |some i=>
  have y:i.size=a.size:=by simpa[g] using h
  have A:(isAgg b).run P w= .ok oc w:=by
   unfold isAgg;rw[fi,dT v w];cases d<;>simp_all
  simp only[Array.length_toList,Array.toArray_toList] at o;simp[loadVar,fi,A,sizeOf,typeInfo,g,y,o]
theorem az {P:gA}{ops:cC fY}{rest:bh fY}{o:fY}{a:Act}{w:World}{Q:Exit->Act->World->Prop}(q:o.guard=ob)(b:eJ)(x:Operand)(v:o.op= .load b x)
  (g:Addr)(y:a.eval x= ox (oa g))(f:cC bo)(d:TypeDesc)(A:∀j u,f.toList[j]?=oa u->w.cell? (g.add j)=oa u)
  (D:P.underlying b=oa d)(G:(match d with| .struct _| .array _ _=>oc|_=>od)=oc)(J:(P.info? b).map (·.size)=oa f.size)
  (h:wpList P ops Q rest (a.put o.dst (oA f)) w):wpList P ops Q (o::rest) a w:=
 wpList_plain q λ_ K=>by
  unfold ia execOp;simp only[v,y,Instr.loadAt,Instr.sureAddr,fi,Sem.run_pure,ly,iJ w g b f d A D G J];exact K _ _ h
def xX (w:World)(B:bw)(f:dr Addr)(a:bh Ins):Prop:=
 a≠[]->∃b d,f=oa ⟨b,d,ob⟩/\b<B/\∀i x,a[i]?=oa x->∀k u,x.cells.toList[k]?=oa u->w.cell? ⟨b,d+i*13+k,ob⟩=oa u
structure ww where
 nm:ap
 par:ct
 varsA:dr Addr
 nvars:bw
 varsC:bw
 rp:iv
 rto:ap
 rcl:ct
 fromA:dr Addr
 nfrom:bw
 fromC:bw
 insA:dr Addr
 insC:bw
 ins:bh Ins
def ww.cells (c:ww):cC bo:=#[oe c.nm,Z U c.par,ot c.varsA c.nvars c.varsC,oy c.rp,oe c.rto,Z U c.rcl,ot c.fromA c.nfrom c.fromC,ot c.insA c.ins.length c.insC]
theorem zH {p:Prop}(h:p):cr p:=h
theorem zE {α:Sort _}(a:α):∃b,a=b:=⟨a,rfl⟩
theorem zR {W:World}{b:bw}{a:cC bo}{d:eJ}{f:bw×bw}(g:W.heap[b]?=oa (oB a d f))(k:bw)(v:bo)(h:a[k]?=oa v:=by rfl):W.cell? ⟨b,k,ob⟩=oa v:=by
 rw[ci _ _ _ _ _ _ g];exact h
theorem gq {N:bw}{w W:World}{o:Obj}(h:w.alloc o=W)(a:w.heap.size=N):bj N w W:=by
 rw[<-h,<-a];exact(an _ _).alloc (bl _) _
theorem oL {N:bw}{w W:World}{o q:Obj}(h:(w.alloc o).alloc q=W)(a:w.heap.size=N):bj N w W:=by
 rw[<-h,<-a];exact((an _ _).alloc (bl _) _).alloc (by simp) _
theorem jJ {w W:World}{o:Obj}(h:w.alloc o=W):bj w.heap.size w W:=gq h rfl
theorem BG {w W:World}{o q:Obj}(h:(w.alloc o).alloc q=W):bj w.heap.size w W:=oL h rfl
theorem zD {w w2 W:World}{o:Obj}(h:w2.alloc o=W)(hb:cr (bj w.heap.size w w2)):bj w.heap.size w W:=by
 rw[<-h];exact hb.out.alloc hb.out.size _
theorem uG {w W:World}{N:bw}{o q:Obj}(h:(w.alloc o).alloc q=W)(a:w.heap.size=N):W.heap[N]?=oa o:=by
 rw[<-h,<-a];exact eA _ _ _
theorem wy {w W:World}{N:bw}{o q:Obj}(h:(w.alloc o).alloc q=W)(a:w.heap.size=N):W.heap[N+1]?=oa q:=by
 rw[<-h,<-a];exact gx _ _ _
abbrev zP (f:FuncId)(a:cC bo)(w:World)(v:bo):Prop:=et ac f a w λe w'=>e= oE v/\bj w.heap.size w w'
abbrev zS (f:FuncId)(a:cC bo)(w:World)(v:bo):Prop:=et ac f a w λe w'=>e= oE v/\w=w'
section ext
variable {M M':bw->Prop}{w w' w'':World}
theorem Ext.refl (M:bw->Prop)(w:World):Ext M w w:=⟨rfl,rfl,rfl,bl _,λ_ _ _=>rfl⟩
theorem Ext.mono (h:Ext M w w')(a:∀k,M k->M' k):Ext M' w w':=⟨h.os,h.tape,h.output,h.size,λk b d=>h.block k b (λe=>d (a k e))⟩
theorem Ext.trans (h:Ext M w w')(k:Ext M' w' w'')(d:∀j,M' j->M j\/w.heap.size<=j):Ext M w w'':=
 ⟨k.os.trans h.os,k.tape.trans h.tape,k.output.trans h.output,cv h.size k.size,λj a b=>(k.block j (cg a h.size) (λe=>by rcases d j e with e|e;exact b e;omega)).trans (h.block j a b)⟩
theorem Ext.drew (h:Ext M w w'):Ext M w w'.drew:=⟨h.os,h.tape,h.output,h.size,h.block⟩
theorem Ext.alloc (h:Ext M w w')(o:Obj):Ext M w (w'.alloc o):=⟨h.os,h.tape,h.output,by rw[World.size_alloc];exact mN h.size,λk a b=>(bt w' o k (cg a h.size)).trans (h.block k a b)⟩
theorem Ext.setCell (h:Ext M w w'){a:Addr}(b:M a.block\/w.heap.size<=a.block)(v:bo):Ext M w (w'.setCell a v):=
 ⟨h.os,h.tape,h.output,by rw[World.size_setCell];exact h.size,λk f d=>(cH w' a v k (λe=>by subst e;rcases b with b|b;exact d b;omega)).trans (h.block k f d)⟩
theorem Ext.set1 (w:World)(b o:bw)(v:bo):Ext (·=b) w (w.setCell ⟨b,o,ob⟩ v):=(Ext.refl (·=b) w).setCell (a:=⟨b,o,ob⟩) (.inl rfl) v
theorem Ext.putObj (w:World)(l:bw)(o:Obj):Ext (·=l) w (w.putObj l o):=⟨rfl,rfl,rfl,by simp,λ_ _ a=>World.putObj_heap_other a⟩
theorem Ext.of_below {B:bw}(h:bj B w w'):Ext (B<=·) w w':=⟨h.os,h.tape,h.output,h.size,λk _ a=>h.block k (by omega)⟩
theorem Ext.of_below_size (h:bj w.heap.size w w'):Ext M w w':=⟨h.os,h.tape,h.output,h.size,λk a _=>h.block k a⟩
theorem Ext.below {B:bw}(h:Ext M w w')(b:B<=w.heap.size)(a:∀k,M k->B<=k):bj B w w':=⟨h.os,h.tape,h.output,h.size,λk d=>h.block k (by omega) (λe=>by have:=a k e;omega)⟩
theorem Ext.of_grown {row:dr bw}(h:w.grownBy w' row)(a:∀k,row=oa k->M k\/w.heap.size<=k):Ext M w w':=⟨h.os,h.tape,h.output,h.size,λk b d=>h.block k b (λe=>by rcases a k e.symm with e|e;exact d e;omega)⟩
theorem Ext.cell (h:Ext M w w'){a:Addr}(b:a.block<w.heap.size)(d:¬M a.block):w'.cell? a=w.cell? a:=World.cell?_of_block (w:=w) (h.block a.block b d)
theorem Ext.heap (h:Ext M w w'){k:bw}{o:Obj}(a:w.heap[k]?=oa o)(b:¬M k):w'.heap[k]?=oa o:=(h.block k (aw.1 a).1 b).trans a
end ext
def mark (b:bw):Deferred:={target:= .collected b,args:=#[]}
def bodyPostC (P:gA)(fn:Func)(R:Ending->World->Prop):Exit->Act->World->Prop
 | .normal,a,w| .ret,a,w=>∃bs:bh bw,a.defers=bs.map mark/\bs.Nodup/\(∀b∈bs,w.heap[b]?=oa (.deferred (oa [])))/\
   ∃v,∀w',Ext (·∈bs) w w'->(mS fn a.tmps).run P w'= .ok v w'/\R (oE v) w'
 |_,_,_=>fW
theorem gX {P:gA}{fn:Func}{n:bw}{tmps:cC bo}{R:Ending->World->Prop}{v:bo}:∀(bs:bh bw)(w:World),bs.Nodup->(∀b∈bs,w.heap[b]?=oa (.deferred (oa [])))->
  (∀w',Ext (·∈bs) w w'->(mS fn tmps).run P w'= .ok v w'/\R (oE v) w')->LeavesInM eq n P fn tmps R (bs.map mark) .returning w
 |[],w,_,_,h=>⟨v,h w (Ext.refl _ _)⟩
 |b::bs,w,a,hb,h=>by
  refine⟨by simp,.inl ⟨b,_,rfl,run_takeDeferred (hb b (by simp)), ?_⟩⟩;have g:b∉bs:=(nh.1 a).1;refine gX bs _ (nh.1 a).2 (λd f=> ?_) (λw' o=>h w' ?_)
  ·rw[World.putObj_heap_other (λe:d=b=>g (by rw[<-e];exact f))];exact hb d (by simp[f])
  ·exact((Ext.putObj w b _).mono (by simp)).trans o (λj q=> .inl (by simp[q]))
theorem dH {P:gA}{f:FuncId}{fn:Func}{c:Code}{args:cC bo}{w:World}{R:Ending->World->Prop}(hf:P.funcs[f]?=oa fn)(hb:fn.body=oa c)
  (h:c.wp P (bodyPostC P fn R) {tmps:=args++ip (fn.ntmps-args.size) undef,defers:=[]} w):et P f args w R:=by
 refine(callsIn_wide (n:=0)).1 (callsIn_of_wp_marks hf hb trivial (lB.2 (wp_mono h ?_)));intro e a w b;cases e with
 |normal=>obtain⟨bs,d,g,j,v,o⟩:=b;show LeavesInM _ _ _ _ _ _ a.defers _ _;rw[d];exact gX bs w g j o
 |ret=>obtain⟨bs,d,g,j,v,o⟩:=b;show LeavesInM _ _ _ _ _ _ a.defers _ _;rw[d];exact gX bs w g j o
 |panic _=>exact b.elim
 |exit _=>exact b.elim
 |goto _=>exact b.elim
 |outgrown=>exact b.elim
def wB (P:gA)(fv:bo)(args:cC bo)(W:World)(R:bo->World->Prop):Prop:=
 ∀(r:dr bw)(n:bw)(o:fY)(f:Operand)(b:cC Operand)(ts:cC eJ)(a:Act)(K:Act->World->Prop)(Q:Exit->Act->World->Prop),
  o.op= .call {callee:= .value f,args:=b,argTypes:=ts}->a.eval f=fv->b.map a.eval=args->(∀v w',R v w'->K (a.put o.dst v) w')->o.wpIn {eq with round:=r} n P a W K Q
theorem uK {r:dr bw}{o:fY}{c:Call}(ρ:Operand->bo)(a:o.op= .call c):o.semAt r ρ=execOp ρ o:=Oper.semAt_eq r ρ o (λb h=>by rw[a] at h;cases h)
theorem iK {P:gA}{l m:bw}{args:cC bo}{W:World}{R:bo->World->Prop}(h:YieldAt eq m P l args W λe w'=>∃v,e= oE v/\R v w'):wB P (.func (.yield l) #[] #[]) args W R:=by
 intro r n o f G ts a K Q b d g j;obtain⟨fn,tmps,assign,body,q,_,u⟩:=h;refine⟨λ_ _=>trivial, ?_⟩;rw[uK _ b];unfold execOp;simp only[b,resolve,d,g];have e:(invoke (Target.fn (.yield l) #[]) (#[]++args)).run P W= .ok (.round l fn tmps assign body) W:=by simp[invoke,q]
 simp only[Deferred.ofValue,fi,Sem.run_pure,ly,e];refine⟨λh=>by simp[eq] at h,trivial,λc y _=> ?_⟩;obtain⟨J,w',⟨v,rfl,A⟩,D⟩:=u c y (room_wide _);exact⟨oE v,w',j v w' A,D⟩
theorem bX {P:gA}{n:bw}{ops:cC fY}{rest:bh fY}{o:fY}{a:Act}{w:World}{Q:Exit->Act->World->Prop}{r:dr bw}(d:o.guard=ob)(f:Operand)(b:cC Operand)(ts:cC eJ)
  (g:o.op= .call {callee:= .value f,args:=b,argTypes:=ts}){fv:bo}{args:cC bo}{R:bo->World->Prop}(hf:a.eval f=fv)(j:b.map a.eval=args)(q:wB P fv args w R)
  (h:∀v w',R v w'->nw {eq with round:=r} n P ops Q rest (a.put o.dst v) w'):nw {eq with round:=r} n P ops Q (o::rest) a w:=
 wpListIn_plain d λ_ u=>q r n o f b ts a _ Q g hf j λv w' y=>u _ _ (h v w' y)
theorem aj {P:gA}{n:bw}{ops:cC fY}{rest:bh fY}{o:fY}{a:Act}{w w':World}{Q:Exit->Act->World->Prop}{r:dr bw}(b:o.guard=ob)(d:∀c,o.op≠ .defer c)(v:bo)
  (f:(execOp a.eval o).run P w= .ok (.value v) w')(h:nw {eq with round:=r} n P ops Q rest (a.put o.dst v) w'):nw {eq with round:=r} n P ops Q (o::rest) a w:=
 wpListIn_plain b λ_ g=>by
  refine⟨λ_ _=>trivial, ?_⟩;rw[Oper.semAt_eq _ _ _ d,f];exact g _ _ h
def Iter (P:gA)(gf:bw)(lb:cC bo){α:Type}(h:α->cC bo)(xs:bh α)(Rd:bw->Prop)(w:World):Prop:=
 ∀(l:bw)(J:bh α->(bw->Prop)->World->Prop)(f:bh α->World->Prop)(C:bw->Prop)(W:World),bj w.heap.size w W->
  (∀a C b d,J a C b->Ext (λk=>W.heap.size<=k/\¬C k) b d->J a C d)->
  (∀a C b,J a C b->∀k,C k->k<b.heap.size/\¬Rd k)->
  (∀a b d,f a b->Ext (λ_=>fW) b d->f a d)->
  (∀a x C b,J a C b->(a++[x])<+:xs->wB P (.func (.yield l) #[] #[]) (h x) b λv d=>
   (v= oy oc/\∃g:bw->Prop,(∀k,g k->C k\/b.heap.size<=k)/\J (a++[x]) g d/\Ext C b d)\/(v= oy od/\f (a++[x]) d))->
  J [] C W->
  et P gf (#[.func (.yield l) #[] #[]]++lb) W λe W'=>∃v,e= oE v/\((∃g,J xs g W')\/(∃a,a<+:xs/\f a W'))
def wF {α:Type}(I:bh α->(bw->Prop)->World->Prop)(d:Code->bh α->(bw->Prop)->World->Prop)(C:bw->Prop)(W:World)(b:bh α):Exit->Act->World->Prop
 | .normal,_,W'=>∃a:bw->Prop,(∀k,a k->C k\/W.heap.size<=k)/\I b a W'/\Ext C W W'
 | .ret,_,W'=>∃a:bw->Prop,(∀k,a k->C k\/W.heap.size<=k)/\d .ret b a W'/\Ext C W W'
 | .exit id,_,W'=>∃a:bw->Prop,(∀k,a k->C k\/W.heap.size<=k)/\d (.exit id) b a W'/\Ext C W W'
 | .goto t,_,W'=>∃a:bw->Prop,(∀k,a k->C k\/W.heap.size<=k)/\d (.goto t) b a W'/\Ext C W W'
 |_,_,_=>fW
theorem gJ {P:gA}{α:Type}{g:Operand}{ps:cC Tmp}{assign body:Code}{Q:Exit->Act->World->Prop}{a:Act}{w:World}{gf:bw}{lb:cC bo}{fn:Func}{fb:Code}
  (hg:a.eval g= .func (.func gf) #[] lb)(hf:P.funcs[gf]?=oa fn)(hname:(fn.name=="runtime.NumGoroutine")=od)(hb:fn.body=oa fb)
  {pi:α->cC bo}{xs:bh α}{Rd:bw->Prop}{w0:World}(hit:Iter P gf lb pi xs Rd w0)(pp:bj w0.heap.size w0 w)(hRd:∀k,Rd k->k<w.heap.size)(pD:∀x,(pi x).size=ps.size)
  (I:bh α->(bw->Prop)->World->Prop)(Ix:Code->bh α->(bw->Prop)->World->Prop)
  (hI:∀b C W W',I b C W->Ext (λk=>w.heap.size<=k/\¬C k) W W'->I b C W')
  (hIC:∀b C W,I b C W->∀k,C k->k<W.heap.size/\¬Rd k)
  (hIx:∀c b C W W',Ix c b C W->Ext (λk=>w.heap.size<=k/\¬C k) W W'->Ix c b C W')
  (C0:bw->Prop)(h0:I [] C0 w)
  (hround:∀(l:bw)(b:bh α)(x:α)(C:bw->Prop)(W:World),w.heap.size<=l->I b C W->(b++[x])<+:xs->
   assign.wpIn (eq.inRound l) 0 P (Exit.then (λa₁ W₁=>∃R:bw->Prop,(∀k,R k->C k\/W.heap.size<=k)/\I b R W₁/\Ext C W W₁/\
    ∀G,I b R G->Ext (·=l) W₁ G->body.wpIn (eq.inRound l) 0 P (wF I Ix R G (b++[x])) a₁ G) (λ_ _ _=>fW))
    {tmps:=(ps.zip (pi x)).foldl (λt (p,v)=>t.setIfInBounds p v) a.tmps,defers:=[]} W)
  (hdone:∀(D:bw)(C:bw->Prop)(W:World),w.heap.size<=D->¬C D->I xs C W->W.heap[D]?=oa (.deferred (oa []))->Q .normal {a with defers:=mark D::a.defers} W)
  (hstop:∀(D:bw)(c:Code)(b:bh α)(C:bw->Prop)(W:World),w.heap.size<=D->¬C D->b<+:xs->Ix c b C W->W.heap[D]?=oa (.deferred (oa []))->c.wp P Q {a with defers:=mark D::a.defers} W):
  (Code.rangeFunc g ps assign body).wp P Q a w:=by
 have eg:∀args w,(callFunc gf args).run P w= .ok (.enter gf args) w:=enters_of hf hname hb;refine(lB (n:=0)).1 (wpIn_rangeFunc ?_);intro pw _;obtain⟨u,oR⟩:∃u:LoopState->dr Code->Loop,u=λst pe=>{state:=st,pending:=pe,fn:=pw,tmps:=a.tmps,params:=ps,assign,body,defers:=w.heap.size}:=⟨_,rfl⟩
 obtain⟨W1,ph⟩:=zE ((w.alloc (.deferred (oa []))).alloc (.loop (u .ready ob)));obtain⟨D,hD⟩:=zE w.heap.size;obtain⟨l,hl⟩:=zE (w.heap.size+1);have qt:W1.heap.size=w.heap.size+2:=by rw[<-ph];simp
 have pH:W1.heap[l]?=oa (.loop (u .ready ob)):=by
  rw[<-ph,<-hl];have:=World.alloc_heap_new (w.alloc (.deferred (oa []))) (.loop (u .ready ob));rwa [World.size_alloc] at this
 have pL:W1.heap[D]?=oa (.deferred (oa [])):=by
  rw[<-ph,<-hD];exact(bt _ _ _ (by simp)).trans (World.alloc_heap_new w _)
 have px:Ext (λ_=>fW) w W1:=by rw[<-ph];exact((Ext.refl _ w).alloc _).alloc _
 have pN:I [] C0 W1:=hI _ _ _ _ h0 (px.mono (λ_ h=>h.elim));have pP:bj w0.heap.size w0 W1:=pp.trans ((px.below (bl _) (λ_ h=>h.elim)).mono pp.size);refine⟨l,[mark D],W1,{target:= .fn (.func gf) lb,args:=#[.func (.yield l) #[] #[]]},W1,gf,#[.func (.yield l) #[] #[]]++lb,W1, ?_, ?_,λ_ _=>trivial, ?_,λh=>by simp[eq] at h, ?_⟩
 ·rw[<-ph,oR,<-hl,<-hD];exact run_enterLoop_outer _ _ _ _ _
 ·simp only[resolve,hg]
  simp[go_sem]
 ·simp[invoke,go_sem,eg]
 have pS:=hit l
  (λb C W=>∃f:bw->Prop,(∀k,C k↔f k\/k=l\/k=D)/\¬f l/\¬f D/\I b f W/\W.heap[l]?=oa (.loop (u .ready ob))/\W.heap[D]?=oa (.deferred (oa [])))
  (λb W=>∃(f:bw->Prop) (c:Code),¬f l/\¬f D/\Ix c b f W/\W.heap[l]?=oa (.loop (u .done (oa c)))/\W.heap[D]?=oa (.deferred (oa [])))
  (λk=>C0 k\/k=l\/k=D) W1 pP ?hst ?hC ?hstx ?hY ⟨C0,λ_=>Iff.rfl,λh=>by have:=(hIC _ _ _ h0 l h).1;omega,λh=>by have:=(hIC _ _ _ h0 D h).1;omega,pN,pH,pL⟩
 case hst=>
  rintro b C X Y ⟨f,y,n1,n2,J,h1,h2⟩ hx;refine⟨f,y,n1,n2,hI _ _ _ _ J (hx.mono λk A=>⟨by omega,λh=>A.2 ((y k).2 (.inl h))⟩),hx.heap h1 (λh=>h.2 ((y l).2 (by simp))),hx.heap h2 (λh=>h.2 ((y D).2 (by simp)))⟩
 case hC=>
  rintro b C X ⟨f,y,n1,n2,J,h1,h2⟩ k A;rcases(y k).1 A with h|rfl|rfl
  ·exact hIC _ _ _ J k h
  ·exact⟨(aw.1 h1).1,λh=>by have:=hRd _ h;omega⟩
  ·exact⟨(aw.1 h2).1,λh=>by have:=hRd _ h;omega⟩
 case hstx=>
  rintro b X Y ⟨f,c,n1,n2,J,h1,h2⟩ hx;exact⟨f,c,n1,n2,hIx _ _ _ _ _ J (hx.mono λ_ h=>h.elim),hx.heap h1 (λh=>h),hx.heap h2 (λh=>h)⟩
 case hY=>
  rintro b x C W ⟨f,y,n1,n2,J,oS,pd⟩ pn;have qu:l<W.heap.size:=(aw.1 oS).1;have qv:D<W.heap.size:=(aw.1 pd).1;have hy:=run_yield (P:=P) (args:=pi x) oS (by rw[oR];exact pD x);rw[oR] at hy;refine iK (m:=0) ⟨pw,_,assign,body,hy,roundIn_of_wpIn trivial (wpIn_mono (hround l b x f W (by omega) J pn) ?_)⟩;intro e a₁ W₁ hq;cases e with
  |normal=>
   obtain⟨R,pj,pT,pf,pZ⟩:=hq;have py:=pf.heap oS n1;have qe:=pf.heap pd n2;have m1:¬R l:=λh=>by rcases pj l h with h|h;exact n1 h;omega
   have m2:¬R D:=λh=>by rcases pj D h with h|h;exact n2 h;omega
   refine⟨_,run_beginRound py (by rw[oR]), ?_⟩;obtain⟨G,po⟩:∃G,W₁.putObj l (.loop {u .ready ob with state:= .busy})=G:=⟨_,rfl⟩
   rw[po];have oT:Ext (·=l) W₁ G:=by rw[<-po];exact Ext.putObj _ _ _
   have qk:G.heap[l]?=oa (.loop {u .ready ob with state:= .busy}):=by rw[<-po];exact World.putObj_heap_same (aw.1 py).1
   have qn:G.heap[D]?=oa (.deferred (oa [])):=oT.heap qe (by omega);have qq:I b R G:=hI _ _ _ _ pT (oT.mono λk A=>by subst A;exact⟨by omega,m1⟩);refine wpIn_mono (pZ G qq oT) ?_;have qr:Ext C W W₁:=pf.mono λk h=>(y k).2 (.inl h);have pk:∀(o:dr Code)(d:bw->Prop)(W₃:World),(∀k,d k->R k\/G.heap.size<=k)->Ext R G W₃->
     (Instr.endRound l o).run P W₃= .ok (oy o.isNone) (W₃.putObj l (.loop (u (if o.isNone then .ready else .done) o)))/\
     (W₃.putObj l (.loop (u (if o.isNone then .ready else .done) o))).heap[l]?=oa (.loop (u (if o.isNone then .ready else .done) o))/\
     (W₃.putObj l (.loop (u (if o.isNone then .ready else .done) o))).heap[D]?=oa (.deferred (oa []))/\¬d l/\¬d D/\Ext C W (W₃.putObj l (.loop (u (if o.isNone then .ready else .done) o)))/\
     Ext (λk=>w.heap.size<=k/\¬d k) W₃ (W₃.putObj l (.loop (u (if o.isNone then .ready else .done) o)))/\(∀k,d k->f k\/W.heap.size<=k):=by
    intro o d W₃ K N;have pB:=N.heap qk m1;have qs:=N.heap qn m2;have q:=run_endRound (P:=P) o pB;rw[oR] at q⊢;have q1:¬d l:=λh=>by rcases K l h with h|h;exact m1 h;have:=oT.size;have:=pf.size;omega
    have q2:¬d D:=λh=>by rcases K D h with h|h;exact m2 h;have:=oT.size;have:=pf.size;omega
    refine⟨q,World.putObj_heap_same (aw.1 pB).1,(World.putObj_heap_other (by omega)).trans qs,q1,q2, ?_,(Ext.putObj _ _ _).mono (λk A=>by subst A;exact⟨by omega,q1⟩), ?_⟩
    ·refine((qr.trans oT (λj hj=> .inl ((y j).2 (by simp[hj])))).trans N (λj hj=> ?_)).trans (Ext.putObj _ _ _) (λj hj=> .inl ((y j).2 (by simp[hj])))
     rcases pj j hj with h|h
     ·exact .inl ((y j).2 (.inl h))
     ·exact .inr h
    ·intro k A
     rcases K k A with h|h
     ·exact pj k h
     ·right;have:=oT.size;have:=pf.size;omega
   intro e a3 W3 hp;cases e with
   |normal=>
    obtain⟨d,K,oX,N⟩:=hp;obtain⟨q,oY,pb,q1,q2,pl,pc,pm⟩:=pk ob d W3 K N;refine⟨_,_,q,_,rfl,.inl ⟨rfl,λk=>d k\/k=l\/k=D,λk A=> ?_,⟨d,λ_=>Iff.rfl,q1,q2,hI _ _ _ _ oX pc,oY,pb⟩,pl⟩⟩;rcases A with h|h|h
    ·rcases pm k h with h|h
     ·exact .inl ((y k).2 (.inl h))
     ·exact .inr h
    ·exact .inl ((y k).2 (by simp[h]))
    ·exact .inl ((y k).2 (by simp[h]))
   |ret=>
    obtain⟨d,K,oX,N⟩:=hp;obtain⟨q,oY,pb,q1,q2,pl,pc,pm⟩:=pk (oa .ret) d W3 K N;exact⟨_,_,q,_,rfl,.inr ⟨rfl,d,.ret,q1,q2,hIx _ _ _ _ _ oX pc,oY,pb⟩⟩
   |exit id=>
    obtain⟨d,K,oX,N⟩:=hp;obtain⟨q,oY,pb,q1,q2,pl,pc,pm⟩:=pk (oa (.exit id)) d W3 K N;exact⟨_,_,q,_,rfl,.inr ⟨rfl,d,.exit id,q1,q2,hIx _ _ _ _ _ oX pc,oY,pb⟩⟩
   |goto t=>
    obtain⟨d,K,oX,N⟩:=hp;obtain⟨q,oY,pb,q1,q2,pl,pc,pm⟩:=pk (oa (.goto t)) d W3 K N;exact⟨_,_,q,_,rfl,.inr ⟨rfl,d,.goto t,q1,q2,hIx _ _ _ _ _ oX pc,oY,pb⟩⟩
   |panic ch=>exact hp.elim
   |outgrown=>exact hp.elim
  |exit _=>exact hq.elim
  |goto _=>exact hq.elim
  |ret=>exact hq.elim
  |panic _=>exact hq.elim
  |outgrown=>exact hq.elim
 refine CallsIn.mono ((callsIn_wide (n:=0-1)).2 pS) ?_;rintro e W2 ⟨v,rfl,(⟨d,f,y,n1,n2,J,oS,pd⟩|⟨b,pn,f,c,n1,n2,J,oS,pd⟩)⟩
 ·have q:=run_endLoop (P:=P) oS (by rw[oR];simp)
  rw[oR] at q;refine⟨ob,_,q,hdone D f _ (by omega) n2 (hI _ _ _ _ J ((Ext.putObj _ _ _).mono λk A=>by subst A;exact⟨by omega,n1⟩)) ((World.putObj_heap_other (by omega)).trans pd)⟩
 ·have q:=run_endLoop (P:=P) oS (by rw[oR];simp)
  rw[oR] at q;refine⟨oa c,_,q,lB.2 (hstop D c b f _ (by omega) n2 pn (hIx _ _ _ _ _ J ((Ext.putObj _ _ _).mono λk A=>by subst A;exact⟨by omega,n1⟩)) ((World.putObj_heap_other (by omega)).trans pd))⟩
theorem bytes_inj {x y:ap}(h:x.data.toList=y.data.toList):x=y:=by
 obtain⟨a⟩:=x;obtain⟨b⟩:=y;have:a=b:=Array.ext' h;rw[this]
instance Aq:LawfulBEq ap where
 eq_of_beq {a b} h:=bytes_inj (by have:a.data=b.data:=eq_of_beq (show(a.data==b.data)=oc from h);rw[this])
 rfl {a}:=show(a.data==a.data)=oc from BEq.rfl
theorem AC {x y:ap}(h:x≠y):Lit.string x.data.toList≠Lit.string y.data.toList:=λe=>h (bytes_inj (by simpa using e))
theorem alloc_at (w:World)(o:Obj):(w.alloc o).heap[w.heap.size]?=oa o:=World.alloc_heap_new w o
theorem xY {α:Type}(l:bh α)(p:α->iv){q:bw}{x:α}(h:l[q]?=oa x):(l.take (q+1)).any p=((l.take q).any p||p x):=by
 rw[kp,h,List.any_append];simp
def aC {α:Type}(cells:α->cC bo)(d:bw)(w:World)(B:bw)(f:dr Addr)(xs:bh α):Prop:=
 xs≠[]->∃b a,f=oa ⟨b,a,ob⟩/\b<B/\∀i x,xs[i]?=oa x->∀k u,(cells x).toList[k]?=oa u->w.cell? ⟨b,a+i*d+k,ob⟩=oa u
theorem aC.below {α:Type}{cells:α->cC bo}{a:bw}{w w':World}{B n:bw}{d:dr Addr}{xs:bh α}(h:aC cells a w B d xs)(hb:bj n w w')(g:B<=n):aC cells a w' B d xs:=by
 intro j;obtain⟨b,o,q,f,v⟩:=h j;exact⟨b,o,q,f,λi x y k u A=>by rw[hb.cell (p:=⟨b,_,ob⟩) (cg f g)];exact v i x y k u A⟩
structure Be where
 nm:ap
 fA:dr Addr
 nf:bw
 fC:bw
 ln:ct
 cl:ct
def Be.cells (s:Be):cC bo:=#[oe s.nm,ot s.fA s.nf s.fC,Z U s.ln,Z U s.cl]
def Ins.ok (i:Ins):Prop:=(∃a cap,i.argsV= ot a i.args.length cap)/\∃a n cap,i.modeV= ot a n cap
theorem jM {α:Type}{p:α->Prop}{xs:bh α}{j:bw}{x:α}(h:∀y∈xs.take j,p y)(b:xs[j]?=oa x)(d:p x):∀y∈xs.take (j+1),p y:=by
 rw[dx b];intro y f;rcases cw.1 f with a|a
 ·exact h y a
 ·simp at a;subst a;exact d
section
open Go.RowKit Go.ChangeShapes Go.WideShapes Go.Deep
section
variable {H:Type}{enc:eJ×bo->H}{w:World}{base:bw}{spare:bw->iv}{held:iv}
def kG (w:World)(a:dr Addr)(xs:bh ct):Prop:=aC (λz:ct=>#[Z U z]) 1 w w.heap.size a xs
def Ins.args_in (w:World)(i:Ins):Prop:=i.ok/\∃a cap,i.argsV= ot a i.args.length cap/\kG w a i.args
structure Vr where
 ptr:iv
 tgt:ap
 cls:ct
def Vr.cells (v:Vr):cC bo:=#[oy v.ptr,oe v.tgt,Z U v.cls]
structure ww.inn (w:World)(c:ww):Prop where
 row:xX w w.heap.size c.insA c.ins
 args:∀x∈c.ins,x.args_in w
 len:c.ins.length<=cX
 vars:∃vs:bh Vr,vs.length=c.nvars/\aC Vr.cells 3 w w.heap.size c.varsA vs
 nvars:c.nvars<=cX
 nfrom:c.nfrom<=cX
 froms:∃fs:bh ct,fs.length=c.nfrom/\kG w c.fromA fs
end
theorem Ins.args_in.below {w w':World}{i:Ins}(h:i.args_in w)(hb:bj w.heap.size w w'):i.args_in w':=by
 obtain⟨a,d,cap,f,g⟩:=h;refine⟨a,d,cap,f,λj=> ?_⟩;obtain⟨b,o,q,u,v⟩:=aC.below g hb (bl _) j;exact⟨b,o,q,cg u hb.size,v⟩
theorem aC.grow {α:Type}{cells:α->cC bo}{a:bw}{w w':World}{d:dr Addr}{xs:bh α}(h:aC cells a w w.heap.size d xs)(hb:bj w.heap.size w w'):aC cells a w' w'.heap.size d xs:=by
 intro f;obtain⟨b,g,j,o,q⟩:=h.below hb (bl _) f;exact⟨b,g,j,cg o hb.size,q⟩
theorem ww.inn.below {w w':World}{c:ww}(h:c.inn w)(hb:bj w.heap.size w w'):c.inn w':=
 ⟨aC.grow (cells:=Ins.cells) h.row hb,λx d=>(h.args x d).below hb,h.len,let ⟨f,a,b⟩:=h.vars;⟨f,a,b.grow hb⟩,h.nvars,h.nfrom,let ⟨g,a,b⟩:=h.froms;⟨g,a,aC.grow b hb⟩⟩
end
abbrev Ty:=iv×ap
def bG:Ty:=(od,lk)
structure Fd where
 nm:ap
 ptr:iv
 tgt:ap
 ln:ct
 cl:ct
def Fd.cells (f:Fd):cC bo:=#[oe f.nm,oy f.ptr,oe f.tgt,Z U f.ln,Z U f.cl]
def Fd.ty (f:Fd):Ty:=(f.ptr,f.tgt)
def Vr.ty (v:Vr):Ty:=(v.ptr,v.tgt)
structure St where
 s:Be
 fs:bh Fd
def St.cells (s:St):cC bo:=s.s.cells
structure Fn where
 c:ww
 vs:bh Vr
 frm:bh ct
 mds:bh (bh ct)
def Fn.cells (f:Fn):cC bo:=f.c.cells
def Fn.ret (f:Fn):Ty:=(f.c.rp,f.c.rto)
structure Mo where
 sA:dr Addr
 sC:bw
 fA:dr Addr
 fC:bw
 ss:bh St
 fs:bh Fn
def Mo.cells (m:Mo):cC bo:=#[ot m.sA m.ss.length m.sC,ot m.fA m.fs.length m.fC]
structure Fn.inn (w:World)(f:Fn):Prop where
 code:f.c.inn w
 nm:f.c.nm.size<=cX
 nvars:f.c.nvars=f.vs.length
 vars:aC Vr.cells 3 w w.heap.size f.c.varsA f.vs
 nfrom:f.c.nfrom=f.frm.length
 frm:kG w f.c.fromA f.frm
 nmds:f.mds.length=f.c.ins.length
 mds:∀(k:bw)(i:Ins)(l:bh ct),f.c.ins[k]?=oa i->f.mds[k]?=oa l->∃ao cap,i.modeV= ot ao l.length cap/\kG w ao l
structure St.inn (w:World)(s:St):Prop where
 nf:s.s.nf=s.fs.length
 row:aC Fd.cells 5 w w.heap.size s.s.fA s.fs
 len:s.fs.length<=cX
 nm:s.s.nm.size<=cX
 fnm:∀f∈s.fs,f.nm.size<=cX
structure Mo.inn (w:World)(m:Mo):Prop where
 srow:aC St.cells 4 w w.heap.size m.sA m.ss
 frow:aC Fn.cells 8 w w.heap.size m.fA m.fs
 sin:∀s∈m.ss,s.inn w
 fin:∀f∈m.fs,f.inn w
 ns:m.ss.length<=cX
 nf:m.fs.length<=cX
theorem Fn.inn.below {w w':World}{f:Fn}(h:f.inn w)(hb:bj w.heap.size w w'):f.inn w':=
 ⟨h.code.below hb,h.nm,h.nvars,h.vars.grow hb,h.nfrom,aC.grow h.frm hb,h.nmds,λk i l a b=>by
  obtain⟨d,cap,g,j⟩:=h.mds k i l a b;exact⟨d,cap,g,aC.grow j hb⟩⟩
theorem St.inn.below {w w':World}{s:St}(h:s.inn w)(hb:bj w.heap.size w w'):s.inn w':=⟨h.nf,h.row.grow hb,h.len,h.nm,h.fnm⟩
theorem Mo.inn.below {w w':World}{m:Mo}(h:m.inn w)(hb:bj w.heap.size w w'):m.inn w':=
 ⟨h.srow.grow hb,h.frow.grow hb,λs a=>(h.sin s a).below hb,λf hf=>(h.fin f hf).below hb,h.ns,h.nf⟩
section
variable {P:gA}{ops:cC fY}{Q:Exit->Act->World->Prop}{md:ey}{S:World->Prop}{k:bw}
inductive eZ (md:ey) (ops:cC fY) (k:bw) (listed:cC iv):bw->Prop
 |last {i:bw} {o:fY} {e:Edge}:listed[i]?=oa od->ops[k]?=oa o->e∈o.after->dq md e=oc->e.on=i->eZ md ops k listed i
 |step {i j:bw} {o:fY} {e:Edge}:listed[i]?=oa od->ops[j]?=oa o->e∈o.after->dq md e=oc->e.on=i->eZ md ops k listed j->eZ md ops k listed i
theorem eZ.un {listed:cC iv}{i:bw}(h:eZ md ops k listed i):listed[i]?=oa od:=by cases h<;>assumption
theorem eT {listed:cC iv}{i j:bw}{o:fY}{e:Edge}(d:listed[i]?=oa od)(f:ops[j]?=oa o)(g:e∈o.after)(hb:dq md e=oc)(h:e.on=i):j∉cG md ops listed:=by
 intro q;obtain⟨_,v,a,u⟩:=mem_ready.1 q;rw[f] at a;obtain rfl:=cN a;have b:=u e g hb;rw[h] at b;simp[d] at b
theorem eZ.notReady {listed:cC iv}{i:bw}(h:eZ md ops k listed i):k∉cG md ops listed:=by
 induction h with
 |last a b d hb f=>exact eT a b d hb f
 |step _ _ _ _ _ _ ih=>exact ih
theorem eZ.set {listed:cC iv}{i:bw}(h:eZ md ops k listed i){j:bw}(o:j∈cG md ops listed)(g:j≠i):eZ md ops k (listed.setIfInBounds j oc) i:=by
 induction h with
 |last a b d hb f=>exact .last (by rw[fy g];exact a) b d hb f
 |step a b d hb f q ih=>exact .step (by rw[fy g];exact a) b d hb f (ih (λe=>by subst e;exact eT a b d hb f o))
def jC (md:ey)(ops:cC fY)(k:bw)(listed:cC iv):bw->bw->iv
 |0,_=>od
 |f+1,i=>(listed[i]?==oa od)&&((ops[k]?).any (λo=>o.after.any λe=>dq md e&&e.on==i)||
   (ka ops.size).any λj=>(ops[j]?).any (λo=>o.after.any λe=>dq md e&&e.on==i)&&jC md ops k listed f j)
theorem sH {listed:cC iv}:∀(f i:bw),jC md ops k listed f i=oc->eZ md ops k listed i
 |0,_,h=>by simp[jC] at h
 |f+1,i,h=>by
  simp only[jC,fk,Bool.or_eq_true,nr,ie,lE,me] at h;obtain⟨g,q⟩:=h;rcases q with⟨o,a,e,b,hb,d⟩|⟨j,_,⟨o,a,e,b,hb,d⟩,u⟩
  ·exact .last g a b hb d
  ·exact .step g a b hb d (sH f j u)
end
section
variable {P:gA}{ops:cC fY}{md:ey}{C:World->Prop}{Q:Exit->Act->World->Prop}{k:bw}
def mI (P:gA)(md:ey)(ops:cC fY)(C:World->Prop)(Q:Exit->Act->World->Prop)(k:bw):bw->cC iv->Act->Prop
 |0,_,_=>fW
 |fuel+1,listed,a=>(cG md ops listed=[]->fW)/\
  ∀i∈cG md ops listed,if i=k then(∀w,C w->wpOp P ops Q i (wpAny P md ops Q fuel (listed.setIfInBounds i oc)) a w) else qOp P ops C i (mI P md ops C Q k fuel (listed.setIfInBounds i oc)) a
theorem mJ:∀(fuel:bw)(listed:cC iv)(a:Act)(w:World),C w->mI P md ops C Q k fuel listed a->wpAny P md ops Q fuel listed a w
 |0,_,_,_,_,h=>h.elim
 |fuel+1,listed,a,w,d,h=>by
  refine⟨λh0=>(h.1 h0).elim,λi f=> ?_⟩;have b:=h.2 i f
  by_cases e:i=k
  ·rw[cQ e] at b
   exact b w d
  ·rw[cy e] at b
   exact wpOp_of_qOp d (λg w' j o=>mJ fuel _ g w' j o) b
theorem qJ {i:bw}{f:fY}{v:bo}(J:ops[i]?=oa f)(K:∀(j:bw)(o:fY) q b,ops[j]?=oa o->o.op≠ .select q b):
  ∀(fuel:bw)(listed:cC iv)(a:Act),
   (∀j d,ops[j]?=oa d->j≠i->listed.getD j oc=od->(∀e∈d.after,dq md e=oc->e.on≠i)->f.apart ops d=oc)->
   i∈cG md ops listed->eZ md ops k listed i->YieldsIn P ops C f v a->
   mI P md ops C Q k fuel (listed.setIfInBounds i oc) (a.put f.dst v)->mI P md ops C Q k (fuel+1) listed a:=by
 intro fuel
 induction fuel with
 |zero=>intro listed a _ _ _ _ H;exact H.elim
 |succ fuel ih=>
  intro listed a N D G R H;refine⟨λh=>(by rw[h] at D;cases D),λj u=> ?_⟩;have y:j≠k:=λe=>by subst e;exact G.notReady u
  rw[cy y]
  by_cases g:j=i
  ·subst g;exact R.qOp J H
  ·have Y:=H.2 j (i9 u g)
   rw[cy y] at Y;obtain⟨oR,d,A,pd⟩:=mem_ready.1 u;have oT:∀e∈d.after,dq md e=oc->e.on≠i:=λe he hb oX=>eT G.un A he hb oX u;have h2:=qOp_put A (N j d A g oR oT) (λq b=>K i f q b J) (λq b=>K j d q b A) R Y;have oY:∀k ok,ops[k]?=oa ok->k≠i->(listed.setIfInBounds j oc).getD k oc=od->
     (∀e∈ok.after,dq md e=oc->e.on≠i)->f.apart ops ok=oc:=λk ok hk pb oS pc=>by
    refine N k ok hk pb ?_ pc
    by_cases y:j=k
    ·subst y;exact oR
    ·rw[getD_set_ne oc y] at oS;exact oS
   refine qOp_mono (λa' h3=>ih (listed.setIfInBounds j oc) a' oY (i9 D (Ne.symm g)) (G.set u g) h3.1 ?_) h2;rw[kq _ _ g];exact h3.2
def qa (md:ey)(ops:cC fY)(i k:bw):iv:=
 (ka (k-i)).any λd=>(ops[i+1+d]?).any λo=>o.after.any λe=>dq md e&&e.on==i
theorem sI {listed:cC iv}:∀(n i:bw),i+n=k->0<n->(∀j,i<=j->j<k->qa md ops j k=oc/\listed[j]?=oa od)->eZ md ops k listed i
 |0,_,_,h0,_=>gC h0 (Nat.lt_irrefl _)
 |n+1,i,J,_,h=>by
  obtain⟨b,f⟩:=h i (bl _) (by omega);unfold qa at b;simp only[ie,m6,lE,me,fk,nr] at b;obtain⟨d,D,o,a,e,g,hb,q⟩:=b
  by_cases u:i+1+d=k
  ·rw[u] at a
   exact .last f a g hb q
  ·exact .step f a g hb q (leads_links_aux n (i+1+d) (by omega) (by omega) λj G v=>h j (by omega) v)
where
 leads_links_aux {listed:cC iv}:∀(m i:bw),i<k->k-i<=m->(∀j,i<=j->j<k->qa md ops j k=oc/\listed[j]?=oa od)->eZ md ops k listed i
  |0,i,b,f,_=>gC f (by omega)
  |m+1,i,b,f,h=>by
   obtain⟨y,A⟩:=h i (bl _) b;unfold qa at y;simp only[ie,m6,lE,me,fk,nr] at y;obtain⟨d,D,o,a,e,g,hb,q⟩:=y
   by_cases u:i+1+d=k
   ·rw[u] at a
    exact .last A a g hb q
   ·exact .step A a g hb q (leads_links_aux m (i+1+d) (by omega) (by omega) λj G v=>h j (by omega) v)
def iL (md:ey)(ops:cC fY):bw->bw->cC iv->iv
 |0,i,listed=>cG md ops listed==[i]
 |n+1,i,listed=>(cG md ops listed).contains i&&gE md ops listed i&&qa md ops i (i+n+1)&&listed[i]?==oa od&&iL md ops n (i+1) (listed.setIfInBounds i oc)
theorem lg {md:ey}{ops:cC fY}:∀(n i:bw)(listed:cC iv),iL md ops n i listed=oc->∀j,i<=j->j<i+n->qa md ops j (i+n)=oc/\listed[j]?=oa od
 |0,_,_,_,j,d,a=>gC a (by omega)
 |n+1,i,listed,h,j,d,a=>by
  simp only[iL,fk,nr] at h;obtain⟨⟨⟨⟨_,_⟩,f⟩,g⟩,o⟩:=h
  by_cases e:j=i
  ·subst e;exact⟨f,g⟩
  ·obtain⟨q,b⟩:=lg n (i+1) _ o j (by omega) (by omega)
   refine⟨by rw[show i+(n+1)=i+1+n from by omega];exact q, ?_⟩;rw[fy (λu=>e u.symm)] at b;exact b
def qK:bw->bw->cC iv->cC iv
 |0,i,listed=>listed.setIfInBounds i oc
 |n+1,i,listed=>qK n (i+1) (listed.setIfInBounds i oc)
theorem mK {g:Act->Prop}(y:el ops=oc){fuel:bw}:∀(l:bh fY)(i:bw)(listed:cC iv)(a:Act),i+l.length=k->(∀j,j<l.length->l[j]?=ops[i+j]?)->
  iL md ops l.length i listed=oc->(∀a w,g a->C w->wpOp P ops Q k (wpAny P md ops Q fuel (qK l.length i listed)) a w)->
  wpQuiet P ops C g l a->mI P md ops C Q k (l.length+1+fuel) listed a
 |[],i,listed,a,d,_,b,q,h=>by
  have D:i=k:=by simpa using d
  subst D;simp only[gO,iL,nr] at b;rw[show([]:bh fY).length+1+fuel=fuel+1 from by simp;omega];refine⟨λh0=>(by rw[b] at h0;cases h0),λj u=> ?_⟩;rw[b] at u;obtain rfl:=co.1 u;rw[cQ rfl];intro w G;exact q a w h G
 |o::l,i,listed,a,d,A,b,q,h=>by
  have J:=b;have h0:ops[i]?=oa o:=by have:=A 0 (by simp);simpa using this.symm
  simp only[du,iL,fk] at b;obtain⟨⟨⟨⟨K,hf⟩,_⟩,_⟩,N⟩:=b;have hst:qOp P ops C i (wpQuiet P ops C g l) a:=by unfold qOp;simp only[h0];exact h
  obtain⟨v,R,Y⟩:=yieldsIn_of_qOp h0 hst;have f:(o::l).length=l.length+1:=rfl;rw[show(o::l).length+1+fuel=(l.length+1+fuel)+1 from by rw[f];omega];refine qJ h0 (gn y) _ listed a (ij h0 hf) (by simpa using K) ?_ R
   (mK y l (i+1) _ _ (by rw[f] at d;omega) (λj u=>by have:=A (j+1) (by rw[f];omega);simpa[Nat.add_assoc,Nat.add_comm 1 j] using this) N q Y)
  refine sI (o::l).length i d (by rw[f];omega) λj h1 h2=> ?_;have:=lg _ _ _ J j h1 (by omega);rw[d] at this;exact this
theorem sJ {fuel:bw}{listed:cC iv}{a:Act}{w:World}(l:bh fY)(i:bw)(f:el ops=oc)(g:iL md ops l.length i listed=oc)(o:(ops.toList.drop i).take l.length=l)(C:World->Prop)(hC:C w)(b:cC iv)
  (q:qK l.length i listed=b)
  (h:wpQuiet P ops C (λd=>∀w,C w->wpOp P ops Q (i+l.length) (wpAny P md ops Q fuel b) d w) l a):wpAny P md ops Q (l.length+1+fuel) listed a w:=by
 refine mJ (k:=i+l.length) _ _ _ _ hC (mK f l i listed a rfl (λj u=> ?_) g (λd w' v y=> ?_) h)
 ·have A:l[j]?=((ops.toList.drop i).take l.length)[j]? :=by rw[o]
  rw[A,m5,cQ u,List.getElem?_drop];simp
 ·rw[q];exact v w' y
section
variable {l:bh fY}
theorem lY {id:bw}{a:Act}{w:World}(n fuel:bw)(d:l.length=n+1+fuel)(f:P.follows .mixedOrders=oc)(g:el l.toArray=oc)(j:iL .any l.toArray n 0 (ip (n+1+fuel) od)=oc)(C:World->Prop)(hC:C w.drew)
  (h:wpQuiet P l.toArray C (λo=>∀w,C w->wpOp P l.toArray Q n (wpAny P .any l.toArray Q fuel (qK n 0 (ip (n+1+fuel) od))) o w) (l.take n) a):(nt id l.toArray oc).wp P Q a w:=by
 refine wp_region_any f ?_;have b:(l.take n).length=n:=by rw[lp];omega
 have q:l.toArray.size=n+1+fuel:=by simpa using d
 rw[q];have:=sJ (P:=P) (ops:=l.toArray) (md:= .any) (Q:=Q) (fuel:=fuel) (listed:=ip (n+1+fuel) od) (a:=a) (w:=w.drew) (l.take n) 0 g (by rw[b];exact j) (by rw[b];simp) C hC _ rfl (by rw[b,cJ];exact h);rw[b] at this;exact this
end
end
section
variable {P:gA}{ops:cC fY}{Q:Exit->Act->World->Prop}{md:ey}{S:World->Prop}{k:bw}
def bN (P:gA)(md:ey)(ops:cC fY)(Q:Exit->Act->World->Prop)(S:World->Prop)(k:bw):bw->cC iv->Act->World->Prop
 |0,_,_,_=>fW
 |fuel+1,listed,a,w=>
  (cG md ops listed=[]->fW)/\
  ∀i∈cG md ops listed,wpOp P ops Q i (λb w'=>if i=k then wpAny P md ops Q fuel (listed.setIfInBounds i oc) b w' else S w'/\bN P md ops Q S k fuel (listed.setIfInBounds i oc) b w') a w
theorem mM:∀(fuel:bw)(listed:cC iv)(a:Act)(w:World),bN P md ops Q S k fuel listed a w->wpAny P md ops Q fuel listed a w
 |0,_,_,_,h=>h.elim
 |fuel+1,_,_,_,h=>⟨λh0=>(h.1 h0).elim,λi d=>wpOp_mono (λf w' b=>by
   by_cases e:i=k
   ·rw[cQ e] at b;exact b
   ·rw[cy e] at b;exact mM fuel _ f w' b.2) (h.2 i d)⟩
theorem qL {i:bw}{d:fY}{v:bo}(K:ops[i]?=oa d)(N:∀(j:bw)(o:fY) q b,ops[j]?=oa o->o.op≠ .select q b)
  (hQ:∀c a w,Q (.panic c) (a.put d.dst v) w->Q (.panic c) a w):
  ∀(fuel:bw)(listed:cC iv)(a:Act)(w:World),
   (∀j f,ops[j]?=oa f->j≠i->listed.getD j oc=od->(∀e∈f.after,dq md e=oc->e.on≠i)->d.apart ops f=oc)->
   i∈cG md ops listed->eZ md ops k listed i->YieldsIf P ops S d v a->S w->
   bN P md ops Q S k fuel (listed.setIfInBounds i oc) (a.put d.dst v) w->bN P md ops Q S k (fuel+1) listed a w:=by
 intro fuel
 induction fuel with
 |zero=>intro listed a w _ _ _ _ _ H;exact H.elim
 |succ fuel ih=>
  intro listed a w R y A Y hS H;have oT:i≠k:=λe=>by subst e;exact A.notReady y
  refine⟨λh=>(by rw[h] at y;cases y),λj u=> ?_⟩
  by_cases g:j=i
  ·subst g;exact Y.wpOp K hS (by rw[cy oT];exact⟨hS,H⟩)
  ·have D:j≠k:=λe=>by subst e;exact A.notReady u
   have h1:=H.2 j (i9 u g);simp only[cy D] at h1⊢;obtain⟨oR,f,G,pf⟩:=mem_ready.1 u;have oX:∀e∈f.after,dq md e=oc->e.on≠i:=λe he hb oY=>eT A.un G he hb oY u;have h2:=wpOp_putIf G (R j f G g oR oX) (λq b=>N i d q b K) (λq b=>N j f q b G) hQ Y h1;have pb:∀k ok,ops[k]?=oa ok->k≠i->(listed.setIfInBounds j oc).getD k oc=od->
     (∀e∈ok.after,dq md e=oc->e.on≠i)->d.apart ops ok=oc:=λk ok hk pc oS pd=>by
    refine R k ok hk pc ?_ pd
    by_cases D:j=k
    ·subst D;exact oR
    ·rw[getD_set_ne oc D] at oS;exact oS
   refine wpOp_mono (λa' w' J=>⟨J.2.1,ih (listed.setIfInBounds j oc) a' w' pb (i9 y (Ne.symm g)) (A.set u g) J.1 J.2.1 ?_⟩) h2;rw[kq _ _ g];exact J.2.2
theorem lh {i:bw}{b:fY}{v:bo}{fuel:bw}{listed:cC iv}{a:Act}{w:World}(d:ops[i]?=oa b)
  (f:el ops=oc)(hf:gE md ops listed i=oc)(g:(cG md ops listed).contains i=oc)(j:jC md ops k listed ops.size i=oc)
  (o:∀c a w,Q (.panic c) (a.put b.dst v) w->Q (.panic c) a w)(q:YieldsIf P ops S b v a)(u:S w)
  (h:bN P md ops Q S k fuel (listed.setIfInBounds i oc) (a.put b.dst v) w):bN P md ops Q S k (fuel+1) listed a w:=
 qL d (gn f) o fuel listed a w (ij d hf) (by simpa using g) (sH _ _ j) q u h
theorem uL {i:bw}{o:fY}{fuel:bw}{listed:cC iv}{a:Act}{w:World}(d:cG md ops listed=[i])(g:i≠k)(q:ops[i]?=oa o)
  (h:∀b:Act->World->Prop,(∀a w,S w->bN P md ops Q S k fuel (listed.setIfInBounds i oc) a w->b a w)->if cU o (gh ops a.tmps)=oc then ia P o a w b Q else b (a.put o.dst undef) w):
  bN P md ops Q S k (fuel+1) listed a w:=by
 refine⟨λh0=>(by rw[d] at h0;cases h0),λj f=> ?_⟩;rw[d] at f;obtain rfl:=co.1 f;simp only[cy g];exact wpOp_step q (λb u=>h b (λa w v y=>u a w ⟨v,y⟩))
theorem xZ {o:fY}{fuel:bw}{listed:cC iv}{a:Act}{w:World}(d:cG md ops listed=[k])(g:ops[k]?=oa o)
  (h:∀b:Act->World->Prop,(∀a w,wpAny P md ops Q fuel (listed.setIfInBounds k oc) a w->b a w)->if cU o (gh ops a.tmps)=oc then ia P o a w b Q else b (a.put o.dst undef) w):
  bN P md ops Q S k (fuel+1) listed a w:=by
 refine⟨λh0=>(by rw[d] at h0;cases h0),λj f=> ?_⟩;rw[d] at f;obtain rfl:=co.1 f;simp only[if_true];exact wpOp_step g (λb q=>h b q)
theorem ai {id:bw}{a:Act}{w:World}(k:bw)(S:World->Prop)(b:P.follows .mixedOrders=oc)
  (h:bN P .any ops Q S k ops.size (ip ops.size od) a w.drew):(nt id ops oc).wp P Q a w:=
 wp_region_any b (mM _ _ _ _ h)
theorem ll {o:fY}{a:Act}(h:cU o (gh ops a.tmps)=oc)(b:eJ)(x:Operand)(q:o.op= .load b x)
  (g:Addr)(v:a.eval x= ox (oa g))(f:cC bo)(d:TypeDesc)(y:∀w,S w->∀j u,f.toList[j]?=oa u->w.cell? (g.add j)=oa u)
  (A:P.underlying b=oa d)(D:(match d with| .struct _| .array _ _=>oc|_=>od)=oc)(G:(P.info? b).map (·.size)=oa f.size):YieldsIf P ops S o (oA f) a:=by
 refine Or.inl ⟨h,λw J=> ?_⟩;unfold execOp;simp only[q,v,Instr.loadAt,Instr.sureAddr,fi,Sem.run_pure,ly,iJ w g b f d (y w J) A D G]
theorem zT {C:World->Prop}(i:bw){b:fY}{v:bo}{fuel:bw}{listed:cC iv}{a:Act}{w:World}(f:ops[i]?=oa b)
  (hC:∀w,S w->C w)
  (h:bN P md ops Q S k fuel (listed.setIfInBounds i oc) (a.put b.dst v) w)
  (g:∀w,C w->(execOp a.eval b).run P w= .ok (.value v) w:=by intro w d;go_simp;try rfl)
  (d:cU b (gh ops a.tmps)=oc:=by rfl)
  (j:el ops=oc:=by kernel_rfl)(hf:gE md ops listed i=oc:=by kernel_rfl)(o:(cG md ops listed).contains i=oc:=by kernel_rfl)(q:jC md ops k listed ops.size i=oc:=by kernel_rfl)
  (u:∀c a w,Q (.panic c) (a.put b.dst v) w->Q (.panic c) a w:=by exact λ_ _ _ h=>h)(y:S w:=by assumption):bN P md ops Q S k (fuel+1) listed a w:=
 lh f j hf o q u (.inl ⟨d,λw h=>g w (hC w h)⟩) y h
theorem zO (i:bw){o:fY}{fuel:bw}{listed:cC iv}{a:Act}{w:World}(d:ops[i]?=oa o)
  (h:∀b:Act->World->Prop,(∀a w,S w->bN P md ops Q S k fuel (listed.setIfInBounds i oc) a w->b a w)->ia P o a w b Q)
  (f:cU o (gh ops a.tmps)=oc:=by rfl)(g:cG md ops listed=[i]:=by kernel_rfl)(j:i≠k:=by decide):
  bN P md ops Q S k (fuel+1) listed a w:=uL g j d λb q=>by rw[cQ f];exact h b q
theorem zK {o:fY}{fuel:bw}{listed:cC iv}{a:Act}{w:World}(d:ops[k]?=oa o)
  (h:∀b:Act->World->Prop,(∀a w,wpAny P md ops Q fuel (listed.setIfInBounds k oc) a w->b a w)->ia P o a w b Q)
  (f:cU o (gh ops a.tmps)=oc:=by rfl)(g:cG md ops listed=[k]:=by kernel_rfl):
  bN P md ops Q S k (fuel+1) listed a w:=xZ g d λb j=>by rw[cQ f];exact h b j
theorem zL (i:bw){b:fY}{fuel:bw}{listed:cC iv}{a:Act}{w:World}(q:ops[i]?=oa b)(g:eJ){x:Operand}(o:Addr){f:cC bo}{d:TypeDesc}
  (v:∀w,S w->∀j u,f.toList[j]?=oa u->w.cell? (o.add j)=oa u)(y:P.underlying g=oa d)
  (h:bN P md ops Q S k fuel (listed.setIfInBounds i oc) (a.put b.dst (oA f)) w)
  (A:b.op= .load g x:=by rfl)(D:a.eval x= ox (oa o):=by rfl)
  (G:(match d with| .struct _| .array _ _=>oc|_=>od)=oc:=by rfl)(J:(P.info? g).map (·.size)=oa f.size:=by kernel_rfl)
  (K:cU b (gh ops a.tmps)=oc:=by rfl)
  (N:el ops=oc:=by kernel_rfl)(hf:gE md ops listed i=oc:=by kernel_rfl)(R:(cG md ops listed).contains i=oc:=by kernel_rfl)(Y:jC md ops k listed ops.size i=oc:=by kernel_rfl)
  (hQ:∀c a w,Q (.panic c) (a.put b.dst (oA f)) w->Q (.panic c) a w:=by exact λ_ _ _ h=>h)(hS:S w:=by assumption):bN P md ops Q S k (fuel+1) listed a w:=
 lh q N hf R Y hQ (ll K g x A o D f d v y G J) hS h
end
theorem aB {P:gA}{fn:Func}{p u:Tmp}{a:eJ}(h:fn.results=#[.cell p a,.tmp u])(tmps:cC bo)(w:World)(g:bw)(t:eJ)(b:cC bo)(d:bw×bw)(f:cC Field)
  (j:tmps.getD p undef= ox (oa ⟨g,0,ob⟩))(o:w.heap[g]?=oa (oB b t d))
  (q:P.underlying a=oa (.struct f))(v:(P.info? a).map (·.size)=oa b.size):
  (mS fn tmps).run P w= .ok (.tuple #[oA b,tmps.getD u undef]) w:=by
 rw[results_cell_tmp h,j];have e:=j8 w g t a b d _ o q rfl v;simp only[asAddr,Sem.run_pure,ly,e]
theorem dY {P:gA}{fn:Func}{p u:Tmp}{a:eJ}(h:fn.results=#[.tmp u,.cell p a])(tmps:cC bo)(w:World)(g:bw)(t:eJ)(b:cC bo)(d:bw×bw)(j:cC Field)
  (f:tmps.getD p undef= ox (oa ⟨g,0,ob⟩))(o:w.heap[g]?=oa (oB b t d))
  (q:P.underlying a=oa (.struct j))(v:(P.info? a).map (·.size)=oa b.size):
  (mS fn tmps).run P w= .ok (.tuple #[tmps.getD u undef,oA b]) w:=by
 have e:=j8 w g t a b d _ o q rfl v;simp only[mS,h];simp only[nj] at f;simp[fi,eb,f,asAddr,e]
theorem bF {P:gA}{fn:Func}{p u:Tmp}{a b:eJ}(h:fn.results=#[.cell p a,.cell u b])(tmps:cC bo)(w:World)(g j:bw)(t t2:eJ)(d f:cC bo)(o q:bw×bw)(A D:cC Field)
  (v:tmps.getD p undef= ox (oa ⟨g,0,ob⟩))(G:w.heap[g]?=oa (oB d t o))(y:tmps.getD u undef= ox (oa ⟨j,0,ob⟩))(J:w.heap[j]?=oa (oB f t2 q))
  (K:P.underlying a=oa (.struct A))(N:(P.info? a).map (·.size)=oa d.size)(R:P.underlying b=oa (.struct D))(Y:(P.info? b).map (·.size)=oa f.size):
  (mS fn tmps).run P w= .ok (.tuple #[oA d,oA f]) w:=by
 have e:=j8 w g t a d o _ G K rfl N;have e2:=j8 w j t2 b f q _ J R rfl Y;simp only[mS,h];simp only[nj] at v y;simp[fi,eb,v,y,asAddr,e,e2]
theorem lm {N:bw}{w W:World}(h:bj N w W)(n:bw):bj N w (W.drewN n):=⟨h.os,h.tape,h.output,h.size,h.block⟩
theorem aN {W:World}{b:bw}{x y u v:bo}{t:eJ}(h:W.heap[b]?=oa (oB #[x,y] t (0,0))):((W.setCell ⟨b,0,ob⟩ u).setCell ⟨b,1,ob⟩ v).heap[b]?=oa (oB #[u,v] t (0,0)):=by
 have a:=aq W b 0 _ _ u h;have d:=aq _ b 1 _ _ v a;simpa using d
theorem fe {W:World}{g:bw}{a b c d u0 u1 u2 u3:bo}{t:eJ}(h:W.heap[g]?=oa (oB #[a,b,c,d] t (0,0))):
  ((((W.setCell ⟨g,0,ob⟩ u0).setCell ⟨g,1,ob⟩ u1).setCell ⟨g,2,ob⟩ u2).setCell ⟨g,3,ob⟩ u3).heap[g]?=oa (oB #[u0,u1,u2,u3] t (0,0)):=by
 have f:=aq W g 0 _ _ u0 h;have j:=aq _ g 1 _ _ u1 f;have o:=aq _ g 2 _ _ u2 j;have q:=aq _ g 3 _ _ u3 o;exact q
theorem mO {N B:bw}{w W:World}(h:bj N w W)(a:N<=B)(u0 u1 u2 u3:bo):bj N w ((((W.setCell ⟨B,0,ob⟩ u0).setCell ⟨B,1,ob⟩ u1).setCell ⟨B,2,ob⟩ u2).setCell ⟨B,3,ob⟩ u3):=
 (((h.setCell a _).setCell a _).setCell a _).setCell a _
theorem fq {W:World}{g:bw}{a b c d e u0 u1 u2 u3 u4:bo}{t:eJ}(h:W.heap[g]?=oa (oB #[a,b,c,d,e] t (0,0))):
  (((((W.setCell ⟨g,0,ob⟩ u0).setCell ⟨g,1,ob⟩ u1).setCell ⟨g,2,ob⟩ u2).setCell ⟨g,3,ob⟩ u3).setCell ⟨g,4,ob⟩ u4).heap[g]?=oa (oB #[u0,u1,u2,u3,u4] t (0,0)):=by
 have f:=aq W g 0 _ _ u0 h;have j:=aq _ g 1 _ _ u1 f;have o:=aq _ g 2 _ _ u2 j;have q:=aq _ g 3 _ _ u3 o;have u:=aq _ g 4 _ _ u4 q;exact u
theorem dz {N B:bw}{w W:World}(h:bj N w W)(a:N<=B)(u0 u1 u2 u3 u4:bo):bj N w (((((W.setCell ⟨B,0,ob⟩ u0).setCell ⟨B,1,ob⟩ u1).setCell ⟨B,2,ob⟩ u2).setCell ⟨B,3,ob⟩ u3).setCell ⟨B,4,ob⟩ u4):=
 ((((h.setCell a _).setCell a _).setCell a _).setCell a _).setCell a _
theorem rowAt {W:World}{g:bw}{a:cC bo}{t:eJ}(h:W.heap[g]?=oa (oB a t (0,0)))(k:bw){u:bo}(b:a[k]?=oa u):W.cell? ⟨g,k,ob⟩=oa u/\W.frozen? ⟨g,k,ob⟩=od:=
 ⟨by rw[ci _ _ _ _ _ _ h];exact b,dt _ _ _ _ _ h⟩
theorem aa {W:World}{g:bw}{o:Obj}(h:W.heap[g]?=oa o):g<W.heap.size:=(aw.1 h).1
theorem dm {W:World}{g:bw}{a b c d e:bo}{t:eJ}(h:W.heap[g]?=oa (oB #[a,b,c,d,e] t (0,0))):
  (W.cell? ⟨g,0,ob⟩=oa a/\W.cell? ⟨g,1,ob⟩=oa b/\W.cell? ⟨g,2,ob⟩=oa c/\W.cell? ⟨g,3,ob⟩=oa d/\W.cell? ⟨g,4,ob⟩=oa e)/\
  (W.frozen? ⟨g,0,ob⟩=od/\W.frozen? ⟨g,1,ob⟩=od/\W.frozen? ⟨g,2,ob⟩=od/\W.frozen? ⟨g,3,ob⟩=od/\W.frozen? ⟨g,4,ob⟩=od)/\g<W.heap.size:=by
 refine⟨⟨?_, ?_, ?_, ?_, ?_⟩,⟨?_, ?_, ?_, ?_, ?_⟩,(aw.1 h).1⟩
 all_goals first|exact dt _ _ _ _ _ h|(rw[ci _ _ _ _ _ _ h];rfl)
theorem ji {W:World}{g:bw}{a b c d:bo}{t:eJ}(h:W.heap[g]?=oa (oB #[a,b,c,d] t (0,0))):
  (W.cell? ⟨g,0,ob⟩=oa a/\W.cell? ⟨g,1,ob⟩=oa b/\W.cell? ⟨g,2,ob⟩=oa c/\W.cell? ⟨g,3,ob⟩=oa d)/\
  (W.frozen? ⟨g,0,ob⟩=od/\W.frozen? ⟨g,1,ob⟩=od/\W.frozen? ⟨g,2,ob⟩=od/\W.frozen? ⟨g,3,ob⟩=od)/\g<W.heap.size:=by
 refine⟨⟨?_, ?_, ?_, ?_⟩,⟨?_, ?_, ?_, ?_⟩,(aw.1 h).1⟩
 all_goals first|exact dt _ _ _ _ _ h|(rw[ci _ _ _ _ _ _ h];rfl)
theorem bg {W:World}{g:bw}{a b:bo}{t:eJ}(h:W.heap[g]?=oa (oB #[a,b] t (0,0))):
  (W.cell? ⟨g,0,ob⟩=oa a/\W.cell? ⟨g,1,ob⟩=oa b)/\(W.frozen? ⟨g,0,ob⟩=od/\W.frozen? ⟨g,1,ob⟩=od)/\g<W.heap.size:=by
 refine⟨⟨?_, ?_⟩,⟨?_, ?_⟩,(aw.1 h).1⟩
 all_goals first|exact dt _ _ _ _ _ h|(rw[ci _ _ _ _ _ _ h];rfl)
theorem Bf {w:World}{b:bw}{a:eJ}{x y:bo}(h:w.heap[b]?=oa (oB #[x,y] a (0,0))):w.cell? ⟨b,0,ob⟩=oa x/\w.cell? ⟨b,1,ob⟩=oa y:=⟨(rowAt h 0 rfl).1,(rowAt h 1 rfl).1⟩
theorem AJ {w:World}{b:bw}{J:eJ}{a d f g j o q u v y A D G:bo}(h:w.heap[b]?=oa (oB #[a,d,f,g,j,o,q,u,v,y,A,D,G] J (0,0))):w.cell? ⟨b,0,ob⟩=oa a/\w.cell? ⟨b,1,ob⟩=oa d/\w.cell? ⟨b,2,ob⟩=oa f/\w.cell? ⟨b,3,ob⟩=oa g/\w.cell? ⟨b,4,ob⟩=oa j/\w.cell? ⟨b,5,ob⟩=oa o/\w.cell? ⟨b,6,ob⟩=oa q/\w.cell? ⟨b,7,ob⟩=oa u/\w.cell? ⟨b,8,ob⟩=oa v/\w.cell? ⟨b,9,ob⟩=oa y/\w.cell? ⟨b,10,ob⟩=oa A/\w.cell? ⟨b,11,ob⟩=oa D/\w.cell? ⟨b,12,ob⟩=oa G:=⟨(rowAt h 0 rfl).1,(rowAt h 1 rfl).1,(rowAt h 2 rfl).1,(rowAt h 3 rfl).1,(rowAt h 4 rfl).1,(rowAt h 5 rfl).1,(rowAt h 6 rfl).1,(rowAt h 7 rfl).1,(rowAt h 8 rfl).1,(rowAt h 9 rfl).1,(rowAt h 10 rfl).1,(rowAt h 11 rfl).1,(rowAt h 12 rfl).1⟩
theorem ae {g k:bw}{w w':World}(h:Ext (·=g) w w')(u:bo):Ext (·=g) w (w'.setCell ⟨g,k,ob⟩ u):=h.setCell (a:=⟨g,k,ob⟩) (.inl rfl) u
theorem dI {W:World}{g:bw}{o j h f d b a u0 u1 u2 u3 u4 u5 u6:bo}{t:eJ}(q:W.heap[g]?=oa (oB #[o,j,h,f,d,b,a] t (0,0))):
  (((((((W.setCell ⟨g,0,ob⟩ u0).setCell ⟨g,1,ob⟩ u1).setCell ⟨g,2,ob⟩ u2).setCell ⟨g,3,ob⟩ u3).setCell ⟨g,4,ob⟩ u4).setCell ⟨g,5,ob⟩ u5).setCell ⟨g,6,ob⟩ u6).heap[g]?=oa (oB #[u0,u1,u2,u3,u4,u5,u6] t (0,0)):=by
 have h0:(W.setCell ⟨g,0,ob⟩ u0).heap[g]?=oa (oB #[u0,j,h,f,d,b,a] t (0,0)):=aq _ g 0 _ _ u0 q;have u:((W.setCell ⟨g,0,ob⟩ u0).setCell ⟨g,1,ob⟩ u1).heap[g]?=oa (oB #[u0,u1,h,f,d,b,a] t (0,0)):=aq _ g 1 _ _ u1 h0;have v:(((W.setCell ⟨g,0,ob⟩ u0).setCell ⟨g,1,ob⟩ u1).setCell ⟨g,2,ob⟩ u2).heap[g]?=oa (oB #[u0,u1,u2,f,d,b,a] t (0,0)):=aq _ g 2 _ _ u2 u;have y:((((W.setCell ⟨g,0,ob⟩ u0).setCell ⟨g,1,ob⟩ u1).setCell ⟨g,2,ob⟩ u2).setCell ⟨g,3,ob⟩ u3).heap[g]?=oa (oB #[u0,u1,u2,u3,d,b,a] t (0,0)):=aq _ g 3 _ _ u3 v;have A:(((((W.setCell ⟨g,0,ob⟩ u0).setCell ⟨g,1,ob⟩ u1).setCell ⟨g,2,ob⟩ u2).setCell ⟨g,3,ob⟩ u3).setCell ⟨g,4,ob⟩ u4).heap[g]?=oa (oB #[u0,u1,u2,u3,u4,b,a] t (0,0)):=aq _ g 4 _ _ u4 y;have D:((((((W.setCell ⟨g,0,ob⟩ u0).setCell ⟨g,1,ob⟩ u1).setCell ⟨g,2,ob⟩ u2).setCell ⟨g,3,ob⟩ u3).setCell ⟨g,4,ob⟩ u4).setCell ⟨g,5,ob⟩ u5).heap[g]?=oa (oB #[u0,u1,u2,u3,u4,u5,a] t (0,0)):=aq _ g 5 _ _ u5 A;have G:(((((((W.setCell ⟨g,0,ob⟩ u0).setCell ⟨g,1,ob⟩ u1).setCell ⟨g,2,ob⟩ u2).setCell ⟨g,3,ob⟩ u3).setCell ⟨g,4,ob⟩ u4).setCell ⟨g,5,ob⟩ u5).setCell ⟨g,6,ob⟩ u6).heap[g]?=oa (oB #[u0,u1,u2,u3,u4,u5,u6] t (0,0)):=aq _ g 6 _ _ u6 D;exact G
theorem bi (W:World)(g:bw)(u0 u1 u2 u3 u4 u5 u6:bo):Ext (·=g) W (((((((W.setCell ⟨g,0,ob⟩ u0).setCell ⟨g,1,ob⟩ u1).setCell ⟨g,2,ob⟩ u2).setCell ⟨g,3,ob⟩ u3).setCell ⟨g,4,ob⟩ u4).setCell ⟨g,5,ob⟩ u5).setCell ⟨g,6,ob⟩ u6):=by
 refine ae ?_ _;refine ae ?_ _;refine ae ?_ _;refine ae ?_ _;refine ae ?_ _;refine ae ?_ _;refine ae ?_ _;exact Ext.refl _ _
theorem bR {W:World}{g:bw}{b d f h j o q:bo}{t:eJ}(a:W.heap[g]?=oa (oB #[b,d,f,h,j,o,q] t (0,0))):
  (W.cell? ⟨g,0,ob⟩=oa b/\W.cell? ⟨g,1,ob⟩=oa d/\W.cell? ⟨g,2,ob⟩=oa f/\W.cell? ⟨g,3,ob⟩=oa h/\W.cell? ⟨g,4,ob⟩=oa j/\W.cell? ⟨g,5,ob⟩=oa o/\W.cell? ⟨g,6,ob⟩=oa q)/\(W.frozen? ⟨g,0,ob⟩=od/\W.frozen? ⟨g,1,ob⟩=od/\W.frozen? ⟨g,2,ob⟩=od/\W.frozen? ⟨g,3,ob⟩=od/\W.frozen? ⟨g,4,ob⟩=od/\W.frozen? ⟨g,5,ob⟩=od/\W.frozen? ⟨g,6,ob⟩=od)/\g<W.heap.size:=
 ⟨⟨(rowAt a 0 rfl).1,(rowAt a 1 rfl).1,(rowAt a 2 rfl).1,(rowAt a 3 rfl).1,(rowAt a 4 rfl).1,(rowAt a 5 rfl).1,(rowAt a 6 rfl).1⟩,⟨(rowAt a 0 rfl).2,(rowAt a 1 rfl).2,(rowAt a 2 rfl).2,(rowAt a 3 rfl).2,(rowAt a 4 rfl).2,(rowAt a 5 rfl).2,(rowAt a 6 rfl).2⟩,aa a⟩
theorem iM {W:World}{g:bw}{u q o j h f d b a u0 u1 u2 u3 u4 u5 u6 u7 u8:bo}{t:eJ}(v:W.heap[g]?=oa (oB #[u,q,o,j,h,f,d,b,a] t (0,0))):
  (((((((((W.setCell ⟨g,0,ob⟩ u0).setCell ⟨g,1,ob⟩ u1).setCell ⟨g,2,ob⟩ u2).setCell ⟨g,3,ob⟩ u3).setCell ⟨g,4,ob⟩ u4).setCell ⟨g,5,ob⟩ u5).setCell ⟨g,6,ob⟩ u6).setCell ⟨g,7,ob⟩ u7).setCell ⟨g,8,ob⟩ u8).heap[g]?=oa (oB #[u0,u1,u2,u3,u4,u5,u6,u7,u8] t (0,0)):=by
 have h0:(W.setCell ⟨g,0,ob⟩ u0).heap[g]?=oa (oB #[u0,q,o,j,h,f,d,b,a] t (0,0)):=aq _ g 0 _ _ u0 v;have y:((W.setCell ⟨g,0,ob⟩ u0).setCell ⟨g,1,ob⟩ u1).heap[g]?=oa (oB #[u0,u1,o,j,h,f,d,b,a] t (0,0)):=aq _ g 1 _ _ u1 h0;have A:(((W.setCell ⟨g,0,ob⟩ u0).setCell ⟨g,1,ob⟩ u1).setCell ⟨g,2,ob⟩ u2).heap[g]?=oa (oB #[u0,u1,u2,j,h,f,d,b,a] t (0,0)):=aq _ g 2 _ _ u2 y;have D:((((W.setCell ⟨g,0,ob⟩ u0).setCell ⟨g,1,ob⟩ u1).setCell ⟨g,2,ob⟩ u2).setCell ⟨g,3,ob⟩ u3).heap[g]?=oa (oB #[u0,u1,u2,u3,h,f,d,b,a] t (0,0)):=aq _ g 3 _ _ u3 A;have G:(((((W.setCell ⟨g,0,ob⟩ u0).setCell ⟨g,1,ob⟩ u1).setCell ⟨g,2,ob⟩ u2).setCell ⟨g,3,ob⟩ u3).setCell ⟨g,4,ob⟩ u4).heap[g]?=oa (oB #[u0,u1,u2,u3,u4,f,d,b,a] t (0,0)):=aq _ g 4 _ _ u4 D;have J:((((((W.setCell ⟨g,0,ob⟩ u0).setCell ⟨g,1,ob⟩ u1).setCell ⟨g,2,ob⟩ u2).setCell ⟨g,3,ob⟩ u3).setCell ⟨g,4,ob⟩ u4).setCell ⟨g,5,ob⟩ u5).heap[g]?=oa (oB #[u0,u1,u2,u3,u4,u5,d,b,a] t (0,0)):=aq _ g 5 _ _ u5 G;have K:(((((((W.setCell ⟨g,0,ob⟩ u0).setCell ⟨g,1,ob⟩ u1).setCell ⟨g,2,ob⟩ u2).setCell ⟨g,3,ob⟩ u3).setCell ⟨g,4,ob⟩ u4).setCell ⟨g,5,ob⟩ u5).setCell ⟨g,6,ob⟩ u6).heap[g]?=oa (oB #[u0,u1,u2,u3,u4,u5,u6,b,a] t (0,0)):=aq _ g 6 _ _ u6 J;have N:((((((((W.setCell ⟨g,0,ob⟩ u0).setCell ⟨g,1,ob⟩ u1).setCell ⟨g,2,ob⟩ u2).setCell ⟨g,3,ob⟩ u3).setCell ⟨g,4,ob⟩ u4).setCell ⟨g,5,ob⟩ u5).setCell ⟨g,6,ob⟩ u6).setCell ⟨g,7,ob⟩ u7).heap[g]?=oa (oB #[u0,u1,u2,u3,u4,u5,u6,u7,a] t (0,0)):=aq _ g 7 _ _ u7 K;have R:(((((((((W.setCell ⟨g,0,ob⟩ u0).setCell ⟨g,1,ob⟩ u1).setCell ⟨g,2,ob⟩ u2).setCell ⟨g,3,ob⟩ u3).setCell ⟨g,4,ob⟩ u4).setCell ⟨g,5,ob⟩ u5).setCell ⟨g,6,ob⟩ u6).setCell ⟨g,7,ob⟩ u7).setCell ⟨g,8,ob⟩ u8).heap[g]?=oa (oB #[u0,u1,u2,u3,u4,u5,u6,u7,u8] t (0,0)):=aq _ g 8 _ _ u8 N;exact R
theorem iN (W:World)(g:bw)(u0 u1 u2 u3 u4 u5 u6 u7 u8:bo):Ext (·=g) W (((((((((W.setCell ⟨g,0,ob⟩ u0).setCell ⟨g,1,ob⟩ u1).setCell ⟨g,2,ob⟩ u2).setCell ⟨g,3,ob⟩ u3).setCell ⟨g,4,ob⟩ u4).setCell ⟨g,5,ob⟩ u5).setCell ⟨g,6,ob⟩ u6).setCell ⟨g,7,ob⟩ u7).setCell ⟨g,8,ob⟩ u8):=by
 refine ae ?_ _;refine ae ?_ _;refine ae ?_ _;refine ae ?_ _;refine ae ?_ _;refine ae ?_ _;refine ae ?_ _;refine ae ?_ _;refine ae ?_ _;exact Ext.refl _ _
theorem dA {W:World}{g:bw}{b d f h j o q u v:bo}{t:eJ}(a:W.heap[g]?=oa (oB #[b,d,f,h,j,o,q,u,v] t (0,0))):
  (W.cell? ⟨g,0,ob⟩=oa b/\W.cell? ⟨g,1,ob⟩=oa d/\W.cell? ⟨g,2,ob⟩=oa f/\W.cell? ⟨g,3,ob⟩=oa h/\W.cell? ⟨g,4,ob⟩=oa j/\W.cell? ⟨g,5,ob⟩=oa o/\W.cell? ⟨g,6,ob⟩=oa q/\W.cell? ⟨g,7,ob⟩=oa u/\W.cell? ⟨g,8,ob⟩=oa v)/\(W.frozen? ⟨g,0,ob⟩=od/\W.frozen? ⟨g,1,ob⟩=od/\W.frozen? ⟨g,2,ob⟩=od/\W.frozen? ⟨g,3,ob⟩=od/\W.frozen? ⟨g,4,ob⟩=od/\W.frozen? ⟨g,5,ob⟩=od/\W.frozen? ⟨g,6,ob⟩=od/\W.frozen? ⟨g,7,ob⟩=od/\W.frozen? ⟨g,8,ob⟩=od)/\g<W.heap.size:=
 ⟨⟨(rowAt a 0 rfl).1,(rowAt a 1 rfl).1,(rowAt a 2 rfl).1,(rowAt a 3 rfl).1,(rowAt a 4 rfl).1,(rowAt a 5 rfl).1,(rowAt a 6 rfl).1,(rowAt a 7 rfl).1,(rowAt a 8 rfl).1⟩,⟨(rowAt a 0 rfl).2,(rowAt a 1 rfl).2,(rowAt a 2 rfl).2,(rowAt a 3 rfl).2,(rowAt a 4 rfl).2,(rowAt a 5 rfl).2,(rowAt a 6 rfl).2,(rowAt a 7 rfl).2,(rowAt a 8 rfl).2⟩,aa a⟩
section
variable {P:gA}{ops:cC fY}{Q:Exit->Act->World->Prop}{md:ey}{S:World->Prop}{k:bw}
theorem lq {i j:bw}{d f:fY}{fuel:bw}{listed:cC iv}{a:Act}{w:World}(u:cG md ops listed=[i,j])(v:i≠k)(y:j≠k)(A:ops[i]?=oa d)(D:ops[j]?=oa f)
  (G:∀b:Act->World->Prop,(∀a w,S w->bN P md ops Q S k fuel (listed.setIfInBounds i oc) a w->b a w)->if cU d (gh ops a.tmps)=oc then ia P d a w b Q else b (a.put d.dst undef) w)
  (J:∀b:Act->World->Prop,(∀a w,S w->bN P md ops Q S k fuel (listed.setIfInBounds j oc) a w->b a w)->if cU f (gh ops a.tmps)=oc then ia P f a w b Q else b (a.put f.dst undef) w):
  bN P md ops Q S k (fuel+1) listed a w:=by
 refine⟨λh0=>(by rw[u] at h0;cases h0),λz g=> ?_⟩;rw[u] at g;rcases eR.1 g with rfl|g
 ·simp only[cy v]
  exact wpOp_step A (λb h=>G b (λa w o q=>h a w ⟨o,q⟩))
 ·obtain rfl:=co.1 g
  simp only[cy y];exact wpOp_step D (λb h=>J b (λa w o q=>h a w ⟨o,q⟩))
end
structure BW (W:World) where
 w:World
 h:bj W.heap.size W w
instance {W:World}:Inhabited (BW W):=⟨⟨W,an _ _⟩⟩
theorem jD {P:gA}{id:bw}{Q:Exit->Act->World->Prop}{a:Act}{W:World}{l:bh fY}(b:P.follows .mixedOrders=oc)(d:Region.lexB .any l.toArray=oc)
  (h:wpQuiet P l.toArray (λw'=>∃p:BW W,w'=p.w) (λf=>∀w',(∃p:BW W,w'=p.w)->Q .normal f w') l a):(nt id l.toArray oc).wp P Q a W:=
 wp_region_quiet (C:=λw'=>∃p:BW W,w'=p.w) b d ⟨⟨W.drew,(an _ _).drew⟩,rfl⟩ (by simpa using h)
theorem zQ {P:gA}{id:bw}{Q:Exit->Act->World->Prop}{a:Act}{W:World}{l:bh fY}
  (h:wpQuiet P l.toArray (λw'=>∃p:BW W,w'=p.w) (λb=>∀w',(∃p:BW W,w'=p.w)->Q .normal b w') l a)
  (d:P.follows .mixedOrders=oc:=by kernel_rfl)(f:Region.lexB .any l.toArray=oc:=by kernel_rfl):(nt id l.toArray oc).wp P Q a W:=
 jD d f h
theorem bn {P:gA}{f:FuncId}{args:cC bo}{W:World}{p:BW W}{v:bo}(h:et P f args p.w λe w'=>e= oE v/\bj p.w.heap.size p.w w'):
  et P f args p.w λe w''=>e= oE v/\∃q:BW W,w''=q.w:=
 h.mono λ_ w' ⟨a,hb⟩=>⟨a,⟨w',p.h.trans (hb.mono p.h.size)⟩,rfl⟩
theorem fP {P:gA}{f:FuncId}{args:cC bo}{W:World}{p:BW W}{v:bo}(h:et P f args p.w λe w'=>e= oE v/\p.w=w'):
  et P f args p.w λe w''=>e= oE v/\∃q:BW W,w''=q.w:=
 h.mono λ_ _ ⟨a,hb⟩=>⟨a,p,hb.symm⟩
theorem run_append_nil {P:gA}(w:World)(base:bw)(t d e:eJ)(i:TypeInfo)(size:bw)(a:P.underlying t=oa (.slice e))(b:P.info? e=oa i)
  (v:bo)(n:bw)(xs:bh bo)(f:w.ownsRow base e size v n xs)(c:bw):(fj #[t,t] d #[v,ot ob 0 c]).run P w= .ok v w:=by
 rcases f.2 with⟨rfl,rfl⟩|⟨g,cap,cur,rfl,_,_,h,_⟩
 ·simp[fj,dT a,sizeOf,typeInfo,b,lz,iz]
 ·simp[fj,dT a,sizeOf,typeInfo,b,lz,iz,h,cM]
theorem fQ {P:gA}{w:World}{ops:cC fY}{rest:bh fY}{o:fY}{a:Act}{Q:Exit->Act->World->Prop}(Y:o.guard=ob)(s x:Operand)(t:eJ)
  (ho:o.op= .call {callee:= .builtin .append,args:=#[s,x],argTypes:=#[t,t]})(base:bw)(e:eJ)(i:TypeInfo)(z:bo)(size mx:bw)(N:P.underlying t=oa (.slice e))(R:P.info? e=oa i)(hz:i.zero=oa z)
  (oR:i.size=size)(oS:i.bytes=mx)(oT:z.cells.size=size)(oX:0<size)
  (v:bo)(n:bw)(xs:bh bo)(hs:a.eval s=v)(A:w.ownsRow base e size v n xs)
  (f:dr Addr)(m c:bw)(d:bh bo)(hx:a.eval x= ot f m c)(hl:d.length=m*size)(oY:f=ob->m=0)(pb:∀g,f=oa g->∀j u,d[j]?=oa u->w.cell? (g.add j)=oa u)(h1:∀u∈d,u.oneCell'=oc)
  (pc:n+m<=cX)(pd:(n+m)*mx<=140737488355328)(pf:base<=w.heap.size)
  (h:∀b w',w'.ownsRow base e size b (n+m) (xs++d)->w.grownBy w' v.ownBlock->(∀k,b.ownBlock=oa k->v.ownBlock=oa k\/w.heap.size<=k)->wpList P ops Q rest (a.put o.dst b) w'):wpList P ops Q (o::rest) a w:=by
 refine wpList_plain Y λK hK=> ?_;have ph:∃b w',(fj #[t,t] o.type #[v,ot f m c]).run P w= .ok b w'/\w'.ownsRow base e size b (n+m) (xs++d)/\w.grownBy w' v.ownBlock/\(∀k,b.ownBlock=oa k->v.ownBlock=oa k\/w.heap.size<=k):=by
  cases f with
  |none=>
   obtain rfl:=oY rfl;have hn:d=[]:=db (by omega);subst hn;exact⟨v,w,run_append_nil w base t o.type e i size N R v n xs A c,by simpa using A,World.grownBy.refl w _,λk q=> .inl q⟩
  |some g=>
   obtain⟨b,w',D,G,J,_,y⟩:=run_append_own_at w base t o.type e i z size mx N R hz oR oS oT oX v n xs A g m c d hl (pb g rfl) h1 pc pd pf;refine⟨b,w',D,G,J,λk q=> ?_⟩;rcases y with y|y
   ·exact .inl (by rw[<-y];exact q)
   ·right;rw[y] at q;simp at q;omega
 obtain⟨b,w',D,G,J,r4⟩:=ph;unfold ia;simp[execOp,ho,resolve,invoke,builtin,hs,hx,D,eb];exact hK _ _ (h _ _ G J r4)
theorem gu (w:World)(e:eJ)(size base:bw)(hb:base<=w.heap.size):(w.alloc (oB #[] e)).ownsRow base e size (ot (oa ⟨w.heap.size,0,ob⟩) 0 0) 0 []:=
 World.ownsRow_made w #[] 0 hb (by unfold cX;omega) (by simp)
theorem ah {w:World}{base:bw}{e:eJ}{size n:bw}{v:bo}{xs:bh bo}(h:w.ownsRow base e size v n xs){k:bw}(a:v.ownBlock=oa k):base<=k/\k<w.heap.size:=h.lt k a
theorem af {w w':World}{base:bw}{e:eJ}{size n:bw}{v:bo}{xs:bh bo}{M:bw->Prop}(h:w.ownsRow base e size v n xs)(b:Ext M w w')(d:∀k,v.ownBlock=oa k->¬M k):w'.ownsRow base e size v n xs:=by
 refine⟨h.1, ?_⟩;rcases h.2 with f|⟨g,cap,cur,a,j,o,q⟩
 ·exact .inl f
 ·refine .inr ⟨g,cap,cur,a,j,b.heap o (d g (by rw[a];rfl)),q⟩
theorem au {w:World}{base m b:bw}{e:eJ}{v:bo}{xs:bh bo}(h:w.ownsRow base e b v m xs):∃d cap,v= ot d m cap:=by
 rcases h.2 with⟨a,f⟩|⟨g,cap,cur,a,_⟩
 ·exact⟨ob,0,by rw[f];exact a⟩
 ·exact⟨_,_,a⟩
theorem dZ {P:gA}{W:World}{ops:cC fY}{rest:bh fY}{o:fY}{a:Act}{Q:Exit->Act->World->Prop}(q:o.guard=ob)(s x:Operand)(t:eJ)
  (y:o.op= .call {callee:= .builtin .append,args:=#[s,x],argTypes:=#[t,t]})(base:bw)(e:eJ)(i:TypeInfo)(z:bo)(size mx:bw)(A:P.underlying t=oa (.slice e))(D:P.info? e=oa i)(G:i.zero=oa z)
  (J:i.size=size)(K:i.bytes=mx)(N:z.cells.size=size)(R:0<size)
  (v:bo)(n:bw)(xs:bh bo)(Y:a.eval s=v)(oR:W.ownsRow base e size v n xs)
  (B:bw)(b:cC bo)(hB:B=W.heap.size)(hx:a.eval x= ot (oa ⟨B,0,ob⟩) 1 1)(oS:b.size=size)(h1:∀u∈b.toList,u.oneCell'=oc)
  (oT:n+1<=cX)(oX:(n+1)*mx<=140737488355328)(pb:base<=W.heap.size)
  (h:∀d w',w'.ownsRow base e size d (n+1) (xs++b.toList)->Ext (λk=>v.ownBlock=oa k) W w'->(∀k,d.ownBlock=oa k->v.ownBlock=oa k\/W.heap.size<=k)->wpList P ops Q rest (a.put o.dst d) w'):
  wpList P ops Q (o::rest) a (W.alloc (oB b e)):=by
 subst hB;refine fQ q s x t y base e i z size mx A D G J K N R v n xs Y (oR.alloc _) (oa ⟨W.heap.size,0,ob⟩) 1 1 b.toList hx (by simp[oS]) (λh=>by cases h)
  (λad oY j u hu=> ?_) h1 oT oX (by rw[World.size_alloc];omega) (λd w' r1 f r3=> ?_)
 ·obtain rfl:(⟨W.heap.size,0,ob⟩:Addr)=ad:=by simpa using oY
  have:=wW W b.toList e j u hu;simpa using this
 ·refine h d w' r1 ?_ (λk g=> ?_)
  ·refine⟨f.os,f.tape,f.output,by have:=f.size;rw[World.size_alloc] at this;omega,λk g hn=> ?_⟩
   rw[f.block k (by rw[World.size_alloc];omega) (λe=>hn e.symm)];exact bt W _ k g
  ·rcases r3 k g with h|h
   ·exact .inl h
   ·right;rw[World.size_alloc] at h;omega
theorem ay {P:gA}{w:World}{o:fY}{a:Act}{Q:Exit->Act->World->Prop}{K:Act->World->Prop}(s x:Operand)(t:eJ)
  (Y:o.op= .call {callee:= .builtin .append,args:=#[s,x],argTypes:=#[t,t]})(base:bw)(e:eJ)(i:TypeInfo)(z:bo)(size mx:bw)(N:P.underlying t=oa (.slice e))(R:P.info? e=oa i)(hz:i.zero=oa z)
  (oR:i.size=size)(oS:i.bytes=mx)(oT:z.cells.size=size)(oX:0<size)
  (v:bo)(n:bw)(xs:bh bo)(hs:a.eval s=v)(A:w.ownsRow base e size v n xs)
  (f:dr Addr)(m c:bw)(d:bh bo)(hx:a.eval x= ot f m c)(hl:d.length=m*size)(oY:f=ob->m=0)(pb:∀g,f=oa g->∀j u,d[j]?=oa u->w.cell? (g.add j)=oa u)(h1:∀u∈d,u.oneCell'=oc)
  (pc:n+m<=cX)(pd:(n+m)*mx<=140737488355328)(pf:base<=w.heap.size)
  (h:∀b w',w'.ownsRow base e size b (n+m) (xs++d)->w.grownBy w' v.ownBlock->(∀k,b.ownBlock=oa k->v.ownBlock=oa k\/w.heap.size<=k)->K (a.put o.dst b) w'):ia P o a w K Q:=by
 have ph:∃b w',(fj #[t,t] o.type #[v,ot f m c]).run P w= .ok b w'/\w'.ownsRow base e size b (n+m) (xs++d)/\w.grownBy w' v.ownBlock/\(∀k,b.ownBlock=oa k->v.ownBlock=oa k\/w.heap.size<=k):=by
  cases f with
  |none=>
   obtain rfl:=oY rfl;have hn:d=[]:=db (by omega);subst hn;exact⟨v,w,run_append_nil w base t o.type e i size N R v n xs A c,by simpa using A,World.grownBy.refl w _,λk q=> .inl q⟩
  |some g=>
   obtain⟨b,w',D,G,J,_,y⟩:=run_append_own_at w base t o.type e i z size mx N R hz oR oS oT oX v n xs A g m c d hl (pb g rfl) h1 pc pd pf;refine⟨b,w',D,G,J,λk q=> ?_⟩;rcases y with y|y
   ·exact .inl (by rw[<-y];exact q)
   ·right;rw[y] at q;simp at q;omega
 obtain⟨b,w',D,G,J,r4⟩:=ph;unfold ia;simp[execOp,Y,resolve,invoke,builtin,hs,hx,D,eb];exact h _ _ G J r4
def cK (c:ct):iv:=decide (65<=c)&&decide (c<=90)||decide (97<=c)&&decide (c<=122)||decide (c=95)
def fu (c:ct):iv:=decide (48<=c)&&decide (c<=57)
def bY (s:ap)(i:bw):ct:=if h:i<s.size then((s[i]'h).toNat:ct) else 0
theorem dJ {b:iv}{p:Prop}{x:iv}(a:x=oc↔p)(h:b=oc↔p):m7 (oy b)= oE (oy x):=by
 rw[Bool.eq_iff_iff.2 (h.trans a.symm)]
theorem uM (c:ct):cK c=oc↔(65<=c/\c<=90\/97<=c/\c<=122)\/c=95:=by unfold cK;simp
theorem qb (c:ct):fu c=oc↔48<=c/\c<=57:=by unfold fu;simp
theorem dK (c:ct)(w:World):zS 203 #[.int .u8 c] w (oy (cK c)):=by
 have a:=zH (uM c);go_enter func203,ntmps203
 by_cases g:65<=c
 ·by_cases j:c<=90
  ·go_wp2
   go_ret;exact⟨dJ a.out (iff_of_true rfl (by omega)),rfl⟩
  ·by_cases f:97<=c
   ·by_cases o:c<=122
    ·go_wp2
     go_ret;exact⟨dJ a.out (iff_of_true rfl (by omega)),rfl⟩
    ·have b:(c==95)=od:=by rw[cL];omega
     go_wp2;go_ret;exact⟨dJ a.out (lA (λh=>by cases h) (by omega)),rfl⟩
   ·by_cases d:c=95
    ·subst d
     go_wp2;go_ret;exact⟨dJ a.out (iff_of_true rfl (by simp)),rfl⟩
    ·have b:(c==95)=od:=by rw[cL];exact d
     go_wp2;go_ret;exact⟨dJ a.out (lA (λh=>by cases h) (by omega)),rfl⟩
 ·have f:¬97<=c:=by omega
  have b:(c==95)=od:=by rw[cL];omega
  go_wp2;go_ret;exact⟨dJ a.out (lA (λh=>by cases h) (by omega)),rfl⟩
theorem fT (c:ct)(w:World):zS 204 #[.int .u8 c] w (oy (fu c)):=by
 have a:=zH (qb c);go_enter func204,ntmps204
 by_cases b:48<=c
 ·by_cases d:c<=57
  ·go_wp2
   go_ret;exact⟨dJ a.out (iff_of_true rfl (by omega)),rfl⟩
  ·go_wp2
   go_ret;exact⟨dJ a.out (lA (λh=>by cases h) (by omega)),rfl⟩
 ·go_wp2
  go_ret;exact⟨dJ a.out (lA (λh=>by cases h) (by omega)),rfl⟩
def eD:bh ap:=[⟨#[105,110,116]⟩,⟨#[115,116,114,117,99,116]⟩,⟨#[105,102]⟩,⟨#[101,108,115,101]⟩,⟨#[119,104,105,108,101]⟩,⟨#[98,114,101,97,107]⟩,⟨#[99,111,110,116,105,110,117,101]⟩,⟨#[114,101,116,117,114,110]⟩,⟨#[102,114,101,101]⟩,⟨#[112,117,116]⟩,⟨#[110,101,119]⟩,⟨#[110,117,108,108]⟩,⟨#[103,101,116]⟩]
theorem oN (w:World):et ac 240 #[] w λe w'=>e= oE (ot (oa ⟨w.heap.size,0,ob⟩) 13 13)/\w'=w.alloc (oB (eD.map dj).toArray 9):=by
 have a:(eD.map dj).toArray=#[oe ⟨#[105,110,116]⟩,oe ⟨#[115,116,114,117,99,116]⟩,oe ⟨#[105,102]⟩,oe ⟨#[101,108,115,101]⟩,oe ⟨#[119,104,105,108,101]⟩,oe ⟨#[98,114,101,97,107]⟩,oe ⟨#[99,111,110,116,105,110,117,101]⟩,oe ⟨#[114,101,116,117,114,110]⟩,oe ⟨#[102,114,101,101]⟩,oe ⟨#[112,117,116]⟩,oe ⟨#[110,101,119]⟩,oe ⟨#[110,117,108,108]⟩,oe ⟨#[103,101,116]⟩]:=rfl;rw[a];clear a;go_enter func240,ntmps240;go_wp2;go_ret;exact⟨rfl,rfl⟩
def eF (s:ap):iv:=eD.any λx=>x==s
theorem qM (s:ap)(w:World):zP 205 #[oe s] w (oy (eF s)):=by
 obtain⟨N,o⟩:=zE w.heap.size;obtain⟨q,f⟩:=zE (w.alloc (oB (eD.map dj).toArray 9));have D:=zH (oN w);rw[o,f] at D;have u:=gq f o;have G:q.heap[N]?=oa (oB (eD.map dj).toArray 9 (0,0)):=by rw[<-f,<-o];exact alloc_at _ _
 have HC:cr (∀(j:bw)(x:ap),eD[j]?=oa x->q.cell? ⟨N,j,ob⟩=oa (oe x)):=λj x a=>by
  rw[ci _ _ _ _ _ _ G];simp[a]
 have HB:=zH u;have J:cr (eD.length=13):=rfl;have K:cr (∀b:iv,b=eF s->(m7 (oy b)= oE (oy (eF s))/\bj N w q)):=λb hb=>by rw[hb];exact⟨rfl,u⟩
 clear f u G;go_enter func205,ntmps205
 go_wp2_with (go_at_call 240;refine D.out.mono ?_;rintro e w2 ⟨rfl,rfl⟩)
 go_loop [4] (λk=>∃j:bw,j<=13/\k= Z U (j:ct)/\∀x∈eD.take j,(x==s)=od) (λk=>13-(intOf k).toNat)
 case atStart=>exact⟨0,da _,rfl,by simp⟩
 case round=>
  obtain⟨j,hj,rfl,g⟩:=hrel
  by_cases oR:j<13
  ·obtain⟨y,v⟩:∃y,eD[j]?=oa y:=⟨_,ce (by rw[J.out];exact oR)⟩
   have d1:=HC.out j y v;have oT:(j:ct)<13:=by omega
   obtain⟨d,A⟩:=zE (y==s);have hd:(y.toList==s.toList)=d:=by rw[<-fR];exact A
   have HZ:=zH g;have R:=zH v;have Y:=zH A;clear v g A;cases d with
   |true=>
    go_wp2;go_ret;refine K.out oc ?_;unfold eF;exact(ie.2 ⟨y,cA R.out,Y.out⟩).symm
   |false=>
    go_wp2
    go_round
    case rel=>
     refine⟨j+1,by omega,by go_num,λx a=> ?_⟩;rw[kp,R.out] at a;rcases cw.1 a with h|h
     ·exact HZ.out x h
     ·have e:x=y:=by simpa using h
      rw[e];exact Y.out
    case measure=>simp[intOf];omega
  ·have oS:j=13:=by omega
   subst oS;have HM:cr (od=eF s):=by
    unfold cr eF;rw[eq_comm,j9];intro x a;have:=g x (by rw[List.take_of_length_le (by rw[J.out];exact bl _)];exact a);rw[this];simp
   clear g;go_wp2;go_ret;exact K.out od HM.out
def isSp (c:ct):iv:=c==32||c==9||c==10
def dD (s:ap):bw->bw->bw
 |0,i=>i
 |n+1,i=>if isSp (bY s i)=oc then dD s n (i+1) else i
def bu (s:ap):bw->bw->bw
 |0,k=>k
 |n+1,k=>if (cK (bY s k)||fu (bY s k))=oc then bu s n (k+1) else k
theorem iO (s:ap):∀(n i:bw),i<=dD s n i/\dD s n i<=i+n
 |0,i=>by simp[dD]
 |n+1,i=>by
  unfold dD
  split
  ·have:=iO s n (i+1);omega
  ·omega
theorem dW (s:ap):∀(n i:bw),i<=bu s n i/\bu s n i<=i+n
 |0,i=>by simp[bu]
 |n+1,i=>by
  unfold bu
  split
  ·have:=dW s n (i+1);omega
  ·omega
def dw:bh ap:=[⟨#[45,62]⟩,⟨#[60,61]⟩,⟨#[62,61]⟩,⟨#[61,61]⟩,⟨#[33,61]⟩,⟨#[43]⟩,⟨#[45]⟩,⟨#[42]⟩,⟨#[47]⟩,⟨#[37]⟩,⟨#[60]⟩,⟨#[62]⟩,⟨#[33]⟩,⟨#[61]⟩,⟨#[40]⟩,⟨#[41]⟩,⟨#[123]⟩,⟨#[125]⟩,⟨#[44]⟩,⟨#[59]⟩]
structure Tok where
 kind:ct
 text:ap
 n:ct
 ln:ct
 cl:ct
def Tok.cells (t:Tok):cC bo:=#[Z U t.kind,oe t.text,Z U t.n,Z U t.ln,Z U t.cl]
abbrev uH:=ct×ap×ct
def Tok.sig (t:Tok):uH:=(t.kind,t.text,t.n)
def dL (s:ap)(i:bw)(g:ap):iv:=decide (g.size<=s.size-i)&&(s.extract i (i+g.size)==g)
def uN (s:ap)(i:bw):dr uH:=
 if cK (bY s i)=oc then
  (if bu s (s.size-i) i<=i+40 then oa (if eF (s.extract i (bu s (s.size-i) i))=oc then 2 else 1,s.extract i (bu s (s.size-i) i),0) else ob)
 else if fu (bY s i)=oc then
  (if i+1<s.size/\(fu (bY s (i+1))||cK (bY s (i+1)))=od then oa (3,s.extract i (i+1),bY s i-48) else ob)
 else(dw.find? (dL s i)).map λg=>(4,g,0)
def iP (s:ap):bw->bw->dr (bh uH)
 |0,_=>ob
 |n+1,i=>if i<s.size then(match uN s i with
   |some t=>(iP s n (dD s (s.size-(i+t.2.1.size)) (i+t.2.1.size))).map (t::·)
   |none=>ob)
  else oa []
theorem gK {s:ap}{j:bw}(h:j<s.size):((s[j]'h).toNat:ct)=bY s j:=by unfold bY;rw[dif_pos h]
def jN (s:ap):Prop:=∀i,bY s i≠47
theorem qN (s:ap)(i:bw)(w:World)(D:jN s)(hs:s.size<=9000000)(N:i<=s.size):
  zS 166 #[oe s,Z U (i:ct)] w (Z U (dD s (s.size-i) i:bw)):=by
 obtain⟨R,q⟩:=zE (dD s (s.size-i) i);rw[q];have Y:=zH D;have u:=zH q;clear D q;go_enter func166,ntmps166;go_wp2
 go_loop [1] (λk=>∃j:bw,j<=s.size/\k= Z U (j:ct)/\dD s (s.size-j) j=R) (λk=>s.size-(intOf k).toNat)
 case atStart=>exact⟨i,N,rfl,u.out⟩
 case round=>
  obtain⟨j,hj,rfl,a⟩:=hrel
  by_cases G:j<s.size
  ·have oT:(j:ct)<(s.size:ct):=by omega
   obtain⟨c,d⟩:=zE (((s[j]'G).toNat:ct):ct);have f:bY s j=c:=by rw[<-gK G];exact d
   have v:c≠47:=by rw[<-f];exact Y.out j
   have y:s.size-j=s.size-(j+1)+1:=by omega
   rw[y] at a;unfold dD at a;rw[f] at a;have f47:(c==47)=od:=by rw[cL];exact v
   by_cases b:isSp c=oc
   ·rw[cQ b] at a
    have J:=zH a;unfold isSp at b;obtain⟨b1,g⟩:=zE (c==32);obtain⟨b2,h⟩:=zE (c==9);obtain⟨b3,o⟩:=zE (c==10);rw[g,h,o] at b;have K:=zH b;clear a b f v f47 y;rw[<-d] at g h o;clear d;have HN:cr (∃k:bw,k<=s.size/\dv .i64 ((j:ct)+1)= Z U (k:ct)/\dD s (s.size-k) k=R):=⟨j+1,by omega,by simp,J.out⟩
    clear J;cases b1<;>cases b2<;>cases b3<;>first
     |(exact gC K.out (by decide))
     |(clear K;go_wp2;go_round;case rel=>exact HN.out
       case measure=>simp[intOf];omega)
   ·rw[cy b] at a
    subst a;have A:isSp c=od:=by simpa using b
    unfold isSp at A;simp only[Bool.or_eq_false_iff] at A;obtain⟨⟨g,h⟩,o⟩:=A;clear b f v y u;rw[<-d] at g h o f47;clear d
    by_cases oX:j+1<s.size
    ·have oR:(j:ct)+1<(s.size:ct):=by omega
     go_wp2;go_ret;exact⟨rfl,rfl⟩
    ·have oR:¬(j:ct)+1<(s.size:ct):=by omega
     go_wp2;go_ret;exact⟨rfl,rfl⟩
  ·have oS:j=s.size:=by omega
   subst oS;rw[Nat.sub_self] at a;unfold dD at a;subst a;clear u;go_wp2;go_ret;exact⟨rfl,rfl⟩
def wG (w:World)(e:Ending)(w':World):Prop:=∃a b:ct,e= oE (oA #[Z U a,Z U b])/\0<=a/\a<=9000001/\0<=b/\b<=9000001/\bj w.heap.size w w'
def Ar (W:World)(N:bw)(w:World)(j:bw)(wr:World):Prop:=∃a b:ct,0<=a/\a<=(j:ct)+1/\0<=b/\b<=(j:ct)+1/\wr.heap[N]?=oa (oB #[Z U 0,Z U 0] 40 (0,0))/\wr.heap[N+1]?=oa (oB #[Z U a,Z U b] 40 (0,0))/\bj N w wr/\wr.heap.size=W.heap.size
theorem oO (s:ap)(n:bw)(w:World)(hs:s.size<=9000000)(hn:n<=s.size):
  et ac 167 #[oe s,Z U (n:ct)] w (wG w):=by
 obtain⟨N,d⟩:=zE w.heap.size;have hst:∀(w:World)(c:cC bo),c.size=2->(cM ⟨w.heap.size,0,ob⟩ [Z U 1,Z U 1] 0).run ac (w.alloc (oB c 40))= .ok () (w.alloc (oB #[Z U 1,Z U 1] 40)):=λw c R=>
  cf (P:=ac) w 40 c #[Z U 1,Z U 1] (by show _=oa 2;kernel_rfl) R (by simp[bp])
 go_enter func167,ntmps167;go_wp2;clear hst;obtain⟨o,f⟩:=zE ((w.alloc (oB #[Z U 0,Z U 0] 40)).alloc (oB #[Z U 1,Z U 1] 40));have h0:Ar o N w 0 o:=⟨1,1,by omega,by omega,by omega,by omega,by rw[<-f,<-d];exact eA _ _ _,by rw[<-f,<-d];exact gx _ _ _,by rw[<-f,<-d];exact((an _ _).alloc (bl _) _).alloc (by simp) _,rfl⟩
 rw[f];have v:N+1<o.heap.size:=by rw[<-f];simp[d]
 have Y:=zH d;have H0:=zH h0;have oX:=zH v;clear f d h0 v
 go_loopw [6] (λk wr=>∃j:bw,j<=n/\k= Z U (j:ct)/\Ar o N w j wr) (λk _=>n-(intOf k).toNat)
 case atStart=>exact⟨0,da _,rfl,H0.out⟩
 case round=>
  obtain⟨j,hj,rfl,a,b,oR,ha,oS,hb,g,h,y,A⟩:=hrel;have q:=zH y;have D:=zH A;have c0:=zR h 0 (Z U a);have c1:=zR h 1 (Z U b);have f0:wr.frozen? ⟨N+1,0,ob⟩=od:=dt _ _ _ _ _ h;have f1:wr.frozen? ⟨N+1,1,ob⟩=od:=dt _ _ _ _ _ h;have k0:=zR g 0 (Z U 0);have k1:=zR g 1 (Z U 0);have g0:wr.frozen? ⟨N,0,ob⟩=od:=dt _ _ _ _ _ g;have g1:wr.frozen? ⟨N,1,ob⟩=od:=dt _ _ _ _ _ g;have u:=zH g;have G:=zH h;clear y A g h
  by_cases oY:j<n
  ·have oT:(j:ct)<(n:ct):=by omega
   have J:j<s.size:=by omega
   by_cases K:(((s[j]'J).toNat:ct)==10)=oc
   ·go_wp2
    go_roundw
    case rel=>
     refine⟨j+1,by omega,by go_num,a+1,1,by omega,by omega,by omega,by omega, ?_,aN G.out, ?_, ?_⟩
     ·exact(cH _ _ _ N (by show N≠N+1;omega)).trans ((cH _ _ _ N (by show N≠N+1;omega)).trans u.out)
     ·exact(q.out.setCell (by show N<=N+1;omega) _).setCell (by show N<=N+1;omega) _
     ·simp[D.out]
    case measure=>simp[intOf];omega
   ·have pb:(((s[j]'J).toNat:ct)==10)=od:=by simpa using K
    clear K;go_wp2;go_roundw
    case rel=>
     refine⟨j+1,by omega,by go_num,a,b+1,by omega,by omega,by omega,by omega, ?_, ?_, ?_, ?_⟩
     ·exact(cH _ _ _ N (by show N≠N+1;omega)).trans u.out
     ·have:=aq wr (N+1) 1 _ _ (Z U (b+1)) G.out;simpa using this
     ·exact q.out.setCell (by show N<=N+1;omega) _
     ·simp[D.out]
    case measure=>simp[intOf];omega
  ·have oT:¬(j:ct)<(n:ct):=by omega
   have pc:a<=9000001:=by omega
   go_wp2;(try simp only[cD,Exit.then]);refine cP (cV (P:=ac) rfl _ _ N 40 _ (0,0) _ rfl (aN u.out) nl rfl (by kernel_rfl)) rfl ?_;refine⟨a,b,rfl,oR,by omega,oS,by omega, ?_⟩;rw[Y.out];exact(q.out.setCell (by show N<=N;omega) _).setCell (by show N<=N;omega) _
end Go.Proofs.YtjomgckjhcfbgaaGreat
