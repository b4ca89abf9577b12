/- Walks. -/
import Derived.Test.YtjomgckjhcfbgaaGreatProg
import Derived.WalkKit
import Derived.WalkLawsBesides
import Derived.WalkSpells
import Derived.Lib.Hide
import Derived.Laws.CopyOwn
import Derived.Deep.QuietTactic
import Derived.BigQuiet
import Derived.Maps.AppendAt
import Derived.RangeFuncNested
import Derived.RangeFuncBound
import Derived.RangeFuncCalls
import Derived.RangeFuncLeaves
import Derived.Shelf.Abstract
import Derived.OwnWalkIn
import Derived.TacticsInMore
import Derived.LoopNIn
import Derived.LoopIn
import Derived.Deep.AppendLies
import Derived.Deep.LoopGhost
import Derived.Deep.RegionHeld3
import Derived.Deep.DeepCutAuto
import Derived.RegionTactic
import Derived.Laws.OwnMore
import Derived.Laws.IdiomCopy
import Derived.WalkMore
import Derived.Deep.Slices
import Derived.Carry
import Derived.OrdersHeld
import Derived.Deep.RegionHeldLaw
import Derived.Deep.Quiet
import Derived.Laws.ResultCell
import Derived.Deep.WholeRow
set_option maxRecDepth 100000
set_option maxHeartbeats 64000000
set_option linter.all false
namespace Go.Proofs.YtjomgckjhcfbgaaGreat
open Go.RowKit
open Go.Proofs.Tryz renaming prog→ac,underlying42→cr,underlying3→cP,underlying32→dr,underlying4→fX,underlying9→fY,underlying35→gt,underlying40→li
open _root_.List renaming getElem?_eq_getElem→am,getElem?_eq_some_iff→bl,mem_of_getElem?→ce,mem_singleton→cA,mem_append→cC,take_length→cT,eq_nil_of_length_eq_zero→cY,length_cons→eI,getElem?_append_right→fi,mem_cons→fW,any_eq_true→ju,length_nil→ki,take_add_one→lP,range→lR,getElem?_append_left→mB,length_take→m8,exists_cons_of_length_eq_add_one→nd,mem_range→oc,getElem?_drop→od,nodup_cons→oT,length_pos_iff→oY,getElem?_take→py
open Go.RowKit.Below renaming refl→an,heap_alloc→bt,heap_setCell→cQ
open Go.RowKit renaming Below→aq,Hid→ca
open _root_ renaming ByteArray→aw,List→bm,Nat→cd,Int→cj,if_neg→cw,Array→cG,if_pos→cI,Option→du,absurd→fL,False→jp,beq_iff_eq→nB,if_true→oB
open Go renaming heap_setCell_same→aE,cell_of_row→bh,Value→bw,storeCells→cU,frozen_of_row→dg,maxLen→dl,run_underlying→eJ,Calls→ft,heap_alloc2_old→fN,TypeId→ge,Oper→ij,yielded→im,Program→i8,heap_alloc2_new→jn,ready_mono→lp,MemPlace→ml,run_loadVar_row→mp,wpIn_wide→nh,Addr→oA,bytes→oE,wpQuiet→pc,results→pN,wpListIn→pZ
open _root_.Array renaming getElem?_eq_some_iff→bb,getElem?_setIfInBounds_ne→gO,replicate→kB,setIfInBounds_comm→mC,any_eq_true'→nF,getD_eq_getD_getElem?→pP
open _root_.Nat renaming le_refl→bp,lt_of_lt_of_le→cn,le_trans→cE,zero_add→cH,zero_le→cJ,le_succ_of_le→po
open Go.Addr renaming add_lit→cM
open Go.Region renaming ready→cN,wanted→dt,noSelect→ei,binds→ev,Mode→fy,noSelect_spec→hU,free→ia,free_spec→kf
open _root_.Option.some renaming inj→cX
open Go.DataW renaming trod_int→dk,trod_struct→ef,trod→ie,trod_string→jx
open Go.Value renaming int→eC,string→qT,slice→ra,pointer→rb,bool→re,agg→rh,int→Z
open _root_.Bool renaming and_eq_true→eK,or_eq_true→gx,true→qv,false→qS
open Go.Result renaming andThen→eV,andThen_ok→lx
open Go.Sem renaming run_bind→fc
open Go.Fence renaming wide→fj
open Go.Value.slice renaming injEq→fz
open Go.Builtin renaming append_→gA,firstCells→lj,lenOf→nb
open _root_.ByteArray renaming empty→iS
open Go.Oper renaming wp→km
open _root_.Option renaming any_eq_true→np,some→qt,none→qu
open Go.Code renaming region→pT
open Go.Obj renaming cells→rj
open Go.Ending renaming returned→rk
open Go.IntKind renaming i64→U
open Tryz
theorem lU:(ac.info? 3).map (λi=>(i.zero,i.size,i.bytes))=qt (qt (Z U 0),1,8):=by kernel_rfl
structure Ext (M:cd->Prop)(w w':World):Prop where
 os:w'.os=w.os
 tape:w'.tape=w.tape
 output:w'.output=w.output
 size:w.heap.size<=w'.heap.size
 block:∀k,k<w.heap.size->¬M k->w'.heap[k]?=w.heap[k]?
def aZ (w:World)(base:cd)(v:bw)(xs:bm cj):Prop:=w.ownsRow base 3 1 v xs.length (xs.map (eC .i64))
theorem aZ.nil (w:World)(base:cd):aZ w base (ra qu 0 0) []:=World.ownsRow_nil _ _ _ _
theorem aZ.mono {w:World}{base d:cd}{v:bw}{xs:bm cj}(h:aZ w base v xs)(q:d<=base):aZ w d v xs:=by
 refine⟨h.1, ?_⟩;rcases h.2 with h|⟨g,cap,cur,f,u,o⟩
 ·exact .inl h
 ·exact .inr ⟨g,cap,cur,f,by omega,o⟩
theorem aZ.shape {w:World}{base n cap:cd}{d:du oA}{xs:bm cj}(h:aZ w base (ra d n cap) xs)(A:0<xs.length):
  ∃g,d=qt ⟨g,0,qu⟩/\base<=g/\g<w.heap.size/\∀(k:cd)(z:cj),xs[k]?=qt z->w.cell? ⟨g,k,qu⟩=qt (Z U z):=by
 rcases h.2 with⟨f,o⟩|⟨g,D,cur,f,o,q,G,J,K,v⟩
 ·omega
 ·have y:d=qt ⟨g,0,qu⟩:=by simp only[fz] at f;exact f.1
  refine⟨g,y,o,(bb.1 q).1,λk z u=> ?_⟩;rw[bh w g k cur _ _ q];have R:k<xs.length:=(bl.1 u).1;have e:(cur.toList.take (xs.length*1))[k]?=qt (Z U z):=by rw[v];simp[u]
  rw[py,cI (by omega)] at e;simpa using e
theorem aZ.app {w:World}{base:cd}{v:bw}{xs:bm cj}{z:cj}(h:w.ownsRow base 3 1 v (xs.length+1) (xs.map (eC .i64)++[Z U z])):aZ w base v (xs++[z]):=by
 unfold aZ;simpa using h
theorem aZ.isSlice {w:World}{base:cd}{v:bw}{xs:bm cj}(h:aZ w base v xs):∃f cap,v= ra f xs.length cap:=by
 rcases h.2 with⟨d,o⟩|⟨g,cap,cur,d,_⟩
 ·exact⟨qu,0,by rw[o];exact d⟩
 ·exact⟨_,_,d⟩
theorem cZ {α:Type}{xs:bm α}{k:cd}{z:α}(h:xs[k]?=qt z):xs.take (k+1)=xs.take k++[z]:=by
 rw[lP,h];rfl
structure Ins where
 op:cj
 d:cj
 a:cj
 b:cj
 f:cj
 n:cj
 sign:aw
 argsV:bw
 modeV:bw
 tI:cj
 els:cj
 ln:cj
 cl:cj
 args:bm cj
def Ins.cells (i:Ins):cG bw:=#[Z U i.op,Z U i.d,Z U i.a,Z U i.b,Z U i.f,Z U i.n,qT i.sign,i.argsV,i.modeV,Z U i.tI,Z U i.els,Z U i.ln,Z U i.cl]
def jN (w:World)(xs:bm cj)(e:Ending)(w':World):Prop:=
 ∃d cap,e= rk (ra d xs.length cap)/\aZ w' w.heap.size (ra d xs.length cap) xs/\aq w.heap.size w w'
theorem ownsRow_below {w w':World}{base:cd}{e:ge}{size:cd}{v:bw}{n:cd}{xs:bm bw}(h:w.ownsRow base e size v n xs)(f:aq w.heap.size w w'):w'.ownsRow base e size v n xs:=by
 refine⟨h.1, ?_⟩;rcases h.2 with o|⟨g,cap,cur,q,u,d,y⟩
 ·exact .inl o
 ·exact .inr ⟨g,cap,cur,q,u,(f.block g (bb.1 d).1).trans d,y⟩
theorem zJ (w:World)(d:bm bw)(t:ge):∀j u,d[j]?=qt u->(w.alloc (rj d.toArray t)).cell? ((⟨w.heap.size,0,qu⟩:oA).add j)=qt u:=by
 intro j u h;rw[cM,cH,World.cell?_alloc_new];simpa using h
theorem gW {P:i8}(w:World)(o:oA)(h:ge)(f:cG bw)(d:TypeDesc)(A:∀j u,f.toList[j]?=qt u->w.cell? (o.add j)=qt u)
  (D:P.underlying h=qt d)(K:(match d with| .struct _| .array _ _=>qv|_=>qS)=qv)(v:(P.info? h).map (·.size)=qt f.size):
  (loadVar h o).run P w= .ok (rh f) w:=by
 have y:(loadCells o f.toList.length).run P w= .ok f.toList.toArray w:=run_loadCells_list (P:=P) w o f.toList A;cases q:P.info? h with
 |none=>simp[q] at v
 |some i=>
  have G:i.size=f.size:=by simpa[q] using v
  have J:(isAgg h).run P w= .ok qv w:=by
   unfold isAgg;rw[fc,eJ D w];cases d<;>simp_all
  simp only[Array.length_toList,Array.toArray_toList] at y;simp[loadVar,fc,J,sizeOf,typeInfo,q,G,y]
theorem az {P:i8}{ops:cG ij}{rest:bm ij}{o:ij}{a:Act}{w:World}{Q:Exit->Act->World->Prop}(y:o.guard=qu)(f:ge)(x:Operand)(A:o.op= .load f x)
  (v:oA)(D:a.eval x= rb (qt v))(q:cG bw)(d:TypeDesc)(G:∀j u,q.toList[j]?=qt u->w.cell? (v.add j)=qt u)
  (J:P.underlying f=qt d)(K:(match d with| .struct _| .array _ _=>qv|_=>qS)=qv)(R:(P.info? f).map (·.size)=qt q.size)
  (h:wpList P ops Q rest (a.put o.dst (rh q)) w):wpList P ops Q (o::rest) a w:=
 wpList_plain y λ_ hK=>by
  unfold km execOp;simp only[A,D,Instr.loadAt,Instr.sureAddr,fc,Sem.run_pure,lx,gW w v f q d G J K R];exact hK _ _ h
def iU (w:World)(B:cd)(h:du oA)(d:bm Ins):Prop:=
 d≠[]->∃b f,h=qt ⟨b,f,qu⟩/\b<B/\∀i x,d[i]?=qt x->∀k u,x.cells.toList[k]?=qt u->w.cell? ⟨b,f+i*13+k,qu⟩=qt u
theorem iU.below {w w':World}{B n:cd}{d:du oA}{f:bm Ins}(h:iU w B d f)(q:aq n w w')(v:B<=n):iU w' B d f:=by
 intro y;obtain⟨b,A,D,o,G⟩:=h y;exact⟨b,A,D,o,λi x J k u K=>by rw[q.cell (p:=⟨b,_,qu⟩) (cn o v)];exact G i x J k u K⟩
structure nJ where
 nm:aw
 par:cj
 varsA:du oA
 nvars:cd
 varsC:cd
 rp:Bool
 rto:aw
 rcl:cj
 fromA:du oA
 nfrom:cd
 fromC:cd
 insA:du oA
 insC:cd
 ins:bm Ins
def nJ.cells (c:nJ):cG bw:=#[qT c.nm,Z U c.par,ra c.varsA c.nvars c.varsC,re c.rp,qT c.rto,Z U c.rcl,ra c.fromA c.nfrom c.fromC,ra c.insA c.ins.length c.insC]
theorem zH {p:Prop}(h:p):ca p:=h
theorem zE {α:Sort _}(a:α):∃b,a=b:=⟨a,rfl⟩
theorem zR {W:World}{b:cd}{d:cG bw}{f:ge}{o:cd×cd}(q:W.heap[b]?=qt (rj d f o))(k:cd)(v:bw)(h:d[k]?=qt v:=by rfl):W.cell? ⟨b,k,qu⟩=qt v:=by
 rw[bh _ _ _ _ _ _ q];exact h
theorem gQ {N:cd}{w W:World}{o:Obj}(h:w.alloc o=W)(d:w.heap.size=N):aq N w W:=by
 rw[<-h,<-d];exact(an _ _).alloc (bp _) _
theorem qQ {N:cd}{w W:World}{o q:Obj}(h:(w.alloc o).alloc q=W)(d:w.heap.size=N):aq N w W:=by
 rw[<-h,<-d];exact((an _ _).alloc (bp _) _).alloc (by simp) _
theorem iF {w W:World}{o:Obj}(h:w.alloc o=W):aq w.heap.size w W:=gQ h rfl
theorem Eu {w W:World}{o q:Obj}(h:(w.alloc o).alloc q=W):aq w.heap.size w W:=qQ h rfl
theorem zD {w w2 W:World}{o:Obj}(h:w2.alloc o=W)(d:ca (aq w.heap.size w w2)):aq w.heap.size w W:=by
 rw[<-h];exact d.out.alloc d.out.size _
theorem vN {w W:World}{N:cd}{o q:Obj}(h:(w.alloc o).alloc q=W)(d:w.heap.size=N):W.heap[N]?=qt o:=by
 rw[<-h,<-d];exact fN _ _ _
theorem xI {w W:World}{N:cd}{o q:Obj}(h:(w.alloc o).alloc q=W)(d:w.heap.size=N):W.heap[N+1]?=qt q:=by
 rw[<-h,<-d];exact jn _ _ _
abbrev zP (f:FuncId)(d:cG bw)(w:World)(v:bw):Prop:=ft ac f d w λe w'=>e= rk v/\aq w.heap.size w w'
abbrev zS (f:FuncId)(d:cG bw)(w:World)(v:bw):Prop:=ft ac f d w λe w'=>e= rk v/\w=w'
theorem zU {α:Type _}{l:bm α}{n:cd}(h:l.length=n+1):∃a t,l=a::t/\t.length=n:=by
 obtain⟨a,t,e⟩:=nd h;exact⟨a,t,e,by subst e;simpa using h⟩
section ext
variable {M M':cd->Prop}{w w' w'':World}
theorem Ext.refl (M:cd->Prop)(w:World):Ext M w w:=⟨rfl,rfl,rfl,bp _,λ_ _ _=>rfl⟩
theorem Ext.mono (h:Ext M w w')(d:∀k,M k->M' k):Ext M' w w':=⟨h.os,h.tape,h.output,h.size,λk f o=>h.block k f (λe=>o (d k e))⟩
theorem Ext.trans (h:Ext M w w')(k:Ext M' w' w'')(o:∀j,M' j->M j\/w.heap.size<=j):Ext M w w'':=
 ⟨k.os.trans h.os,k.tape.trans h.tape,k.output.trans h.output,cE h.size k.size,λj d f=>(k.block j (cn d h.size) (λe=>by rcases o j e with e|e;exact f e;omega)).trans (h.block j d f)⟩
theorem Ext.drew (h:Ext M w w'):Ext M w w'.drew:=⟨h.os,h.tape,h.output,h.size,h.block⟩
theorem Ext.alloc (h:Ext M w w')(o:Obj):Ext M w (w'.alloc o):=⟨h.os,h.tape,h.output,by rw[World.size_alloc];exact po h.size,λk d f=>(bt w' o k (cn d h.size)).trans (h.block k d f)⟩
theorem Ext.setCell (h:Ext M w w'){a:oA}(d:M a.block\/w.heap.size<=a.block)(v:bw):Ext M w (w'.setCell a v):=
 ⟨h.os,h.tape,h.output,by rw[World.size_setCell];exact h.size,λk o f=>(cQ w' a v k (λe=>by subst e;rcases d with d|d;exact f d;omega)).trans (h.block k o f)⟩
theorem Ext.set1 (w:World)(b o:cd)(v:bw):Ext (·=b) w (w.setCell ⟨b,o,qu⟩ v):=(Ext.refl (·=b) w).setCell (a:=⟨b,o,qu⟩) (.inl rfl) v
theorem Ext.putObj (w:World)(l:cd)(o:Obj):Ext (·=l) w (w.putObj l o):=⟨rfl,rfl,rfl,by simp,λ_ _ d=>World.putObj_heap_other d⟩
theorem Ext.of_below {B:cd}(h:aq B w w'):Ext (B<=·) w w':=⟨h.os,h.tape,h.output,h.size,λk _ d=>h.block k (by omega)⟩
theorem Ext.of_below_size (h:aq w.heap.size w w'):Ext M w w':=⟨h.os,h.tape,h.output,h.size,λk d _=>h.block k d⟩
theorem Ext.below {B:cd}(h:Ext M w w')(f:B<=w.heap.size)(d:∀k,M k->B<=k):aq B w w':=⟨h.os,h.tape,h.output,h.size,λk o=>h.block k (by omega) (λe=>by have:=d k e;omega)⟩
theorem Ext.of_grown {row:du cd}(h:w.grownBy w' row)(d:∀k,row=qt k->M k\/w.heap.size<=k):Ext M w w':=⟨h.os,h.tape,h.output,h.size,λk f o=>h.block k f (λe=>by rcases d k e.symm with e|e;exact o e;omega)⟩
theorem Ext.cell (h:Ext M w w'){a:oA}(d:a.block<w.heap.size)(f:¬M a.block):w'.cell? a=w.cell? a:=World.cell?_of_block (w:=w) (h.block a.block d f)
theorem Ext.heap (h:Ext M w w'){k:cd}{o:Obj}(d:w.heap[k]?=qt o)(f:¬M k):w'.heap[k]?=qt o:=(h.block k (bb.1 d).1 f).trans d
end ext
def mark (b:cd):Deferred:={target:= .collected b,args:=#[]}
def bodyPostC (P:i8)(fn:Func)(R:Ending->World->Prop):Exit->Act->World->Prop
 | .normal,a,w| .ret,a,w=>∃bs:bm cd,a.defers=bs.map mark/\bs.Nodup/\(∀b∈bs,w.heap[b]?=qt (.deferred (qt [])))/\
   ∃v,∀w',Ext (·∈bs) w w'->(pN fn a.tmps).run P w'= .ok v w'/\R (rk v) w'
 |_,_,_=>jp
theorem jq {P:i8}{fn:Func}{n:cd}{tmps:cG bw}{R:Ending->World->Prop}{v:bw}:∀(bs:bm cd)(w:World),bs.Nodup->(∀b∈bs,w.heap[b]?=qt (.deferred (qt [])))->
  (∀w',Ext (·∈bs) w w'->(pN fn tmps).run P w'= .ok v w'/\R (rk v) w')->LeavesInM fj n P fn tmps R (bs.map mark) .returning w
 |[],w,_,_,h=>⟨v,h w (Ext.refl _ _)⟩
 |b::bs,w,d,f,h=>by
  refine⟨by simp,.inl ⟨b,_,rfl,run_takeDeferred (f b (by simp)), ?_⟩⟩;have u:b∉bs:=(oT.1 d).1;refine jq bs _ (oT.1 d).2 (λo q=> ?_) (λw' y=>h w' ?_)
  ·rw[World.putObj_heap_other (λe:o=b=>u (by rw[<-e];exact q))];exact f o (by simp[q])
  ·exact((Ext.putObj w b _).mono (by simp)).trans y (λj A=> .inl (by simp[A]))
theorem iJ {P:i8}{f:FuncId}{fn:Func}{c:Code}{args:cG bw}{w:World}{R:Ending->World->Prop}(A:P.funcs[f]?=qt fn)(D:fn.body=qt c)
  (h:c.wp P (bodyPostC P fn R) {tmps:=args++kB (fn.ntmps-args.size) undef,defers:=[]} w):ft P f args w R:=by
 refine(callsIn_wide (n:=0)).1 (callsIn_of_wp_marks A D trivial (nh.2 (wp_mono h ?_)));intro e a w d;cases e with
 |normal=>obtain⟨bs,o,q,u,v,y⟩:=d;show LeavesInM _ _ _ _ _ _ a.defers _ _;rw[o];exact jq bs w q u y
 |ret=>obtain⟨bs,o,q,u,v,y⟩:=d;show LeavesInM _ _ _ _ _ _ a.defers _ _;rw[o];exact jq bs w q u y
 |panic _=>exact d.elim
 |exit _=>exact d.elim
 |goto _=>exact d.elim
 |outgrown=>exact d.elim
def zi (P:i8)(fv:bw)(args:cG bw)(W:World)(R:bw->World->Prop):Prop:=
 ∀(r:du cd)(n:cd)(o:ij)(f:Operand)(d:cG Operand)(ts:cG ge)(a:Act)(K:Act->World->Prop)(Q:Exit->Act->World->Prop),
  o.op= .call {callee:= .value f,args:=d,argTypes:=ts}->a.eval f=fv->d.map a.eval=args->(∀v w',R v w'->K (a.put o.dst v) w')->o.wpIn {fj with round:=r} n P a W K Q
theorem xJ {r:du cd}{o:ij}{c:Call}(ρ:Operand->bw)(d:o.op= .call c):o.semAt r ρ=execOp ρ o:=Oper.semAt_eq r ρ o (λf h=>by rw[d] at h;cases h)
theorem jO {P:i8}{l m:cd}{args:cG bw}{W:World}{R:bw->World->Prop}(h:YieldAt fj m P l args W λe w'=>∃v,e= rk v/\R v w'):zi P (.func (.yield l) #[] #[]) args W R:=by
 intro r n o f ys ts a K Q d q u y;obtain⟨fn,tmps,assign,body,A,_,D⟩:=h;refine⟨λ_ _=>trivial, ?_⟩;rw[xJ _ d];unfold execOp;simp only[d,resolve,q,u];have e:(invoke (Target.fn (.yield l) #[]) (#[]++args)).run P W= .ok (.round l fn tmps assign body) W:=by simp[invoke,A]
 simp only[Deferred.ofValue,fc,Sem.run_pure,lx,e];refine⟨λh=>by simp[fj] at h,trivial,λc G _=> ?_⟩;obtain⟨e',w',⟨v,rfl,J⟩,hs⟩:=D c G (room_wide _);exact⟨rk v,w',y v w' J,hs⟩
theorem fe {P:i8}{n:cd}{ops:cG ij}{rest:bm ij}{o:ij}{a:Act}{w:World}{Q:Exit->Act->World->Prop}{r:du cd}(q:o.guard=qu)(f:Operand)(d:cG Operand)(ts:cG ge)
  (u:o.op= .call {callee:= .value f,args:=d,argTypes:=ts}){fv:bw}{args:cG bw}{R:bw->World->Prop}(y:a.eval f=fv)(A:d.map a.eval=args)(D:zi P fv args w R)
  (h:∀v w',R v w'->pZ {fj with round:=r} n P ops Q rest (a.put o.dst v) w'):pZ {fj with round:=r} n P ops Q (o::rest) a w:=
 wpListIn_plain q λ_ G=>D r n o f d ts a _ Q u y A λv w' J=>G _ _ (h v w' J)
theorem aA {P:i8}{n:cd}{ops:cG ij}{rest:bm ij}{o:ij}{a:Act}{w w':World}{Q:Exit->Act->World->Prop}{r:du cd}(d:o.guard=qu)(f:∀c,o.op≠ .defer c)(v:bw)
  (q:(execOp a.eval o).run P w= .ok (.value v) w')(h:pZ {fj with round:=r} n P ops Q rest (a.put o.dst v) w'):pZ {fj with round:=r} n P ops Q (o::rest) a w:=
 wpListIn_plain d λ_ u=>by
  refine⟨λ_ _=>trivial, ?_⟩;rw[Oper.semAt_eq _ _ _ f,q];exact u _ _ h
def Iter (P:i8)(gf:cd)(lb:cG bw){α:Type}(u:α->cG bw)(xs:bm α)(Rd:cd->Prop)(w:World):Prop:=
 ∀(l:cd)(J:bm α->(cd->Prop)->World->Prop)(o:bm α->World->Prop)(C:cd->Prop)(W:World),aq w.heap.size w W->
  (∀d C f h,J d C f->Ext (λk=>W.heap.size<=k/\¬C k) f h->J d C h)->
  (∀d C f,J d C f->∀k,C k->k<f.heap.size/\¬Rd k)->
  (∀d f h,o d f->Ext (λ_=>jp) f h->o d h)->
  (∀d x C f,J d C f->(d++[x])<+:xs->zi P (.func (.yield l) #[] #[]) (u x) f λv h=>
   (v= re qv/\∃q:cd->Prop,(∀k,q k->C k\/f.heap.size<=k)/\J (d++[x]) q h/\Ext C f h)\/(v= re qS/\o (d++[x]) h))->
  J [] C W->
  ft P gf (#[.func (.yield l) #[] #[]]++lb) W λe W'=>∃v,e= rk v/\((∃q,J xs q W')\/(∃d,d<+:xs/\o d W'))
def zk {α:Type}(I:bm α->(cd->Prop)->World->Prop)(h:Code->bm α->(cd->Prop)->World->Prop)(C:cd->Prop)(W:World)(f:bm α):Exit->Act->World->Prop
 | .normal,_,W'=>∃d:cd->Prop,(∀k,d k->C k\/W.heap.size<=k)/\I f d W'/\Ext C W W'
 | .ret,_,W'=>∃d:cd->Prop,(∀k,d k->C k\/W.heap.size<=k)/\h .ret f d W'/\Ext C W W'
 | .exit id,_,W'=>∃d:cd->Prop,(∀k,d k->C k\/W.heap.size<=k)/\h (.exit id) f d W'/\Ext C W W'
 | .goto t,_,W'=>∃d:cd->Prop,(∀k,d k->C k\/W.heap.size<=k)/\h (.goto t) f d W'/\Ext C W W'
 |_,_,_=>jp
theorem mX {P:i8}{α:Type}{g:Operand}{ps:cG Tmp}{assign body:Code}{Q:Exit->Act->World->Prop}{a:Act}{w:World}{gf:cd}{lb:cG bw}{fn:Func}{fb:Code}
  (hg:a.eval g= .func (.func gf) #[] lb)(hf:P.funcs[gf]?=qt fn)(sR:(fn.name=="runtime.NumGoroutine")=qS)(hb:fn.body=qt fb)
  {rS:α->cG bw}{xs:bm α}{Rd:cd->Prop}{w0:World}(sT:Iter P gf lb rS xs Rd w0)(sx:aq w0.heap.size w0 w)(hRd:∀k,Rd k->k<w.heap.size)(sX:∀x,(rS x).size=ps.size)
  (I:bm α->(cd->Prop)->World->Prop)(Ix:Code->bm α->(cd->Prop)->World->Prop)
  (hI:∀d C W W',I d C W->Ext (λk=>w.heap.size<=k/\¬C k) W W'->I d C W')
  (hIC:∀d C W,I d C W->∀k,C k->k<W.heap.size/\¬Rd k)
  (hIx:∀c d C W W',Ix c d C W->Ext (λk=>w.heap.size<=k/\¬C k) W W'->Ix c d C W')
  (C0:cd->Prop)(h0:I [] C0 w)
  (hround:∀(l:cd)(d:bm α)(x:α)(C:cd->Prop)(W:World),w.heap.size<=l->I d C W->(d++[x])<+:xs->
   assign.wpIn (fj.inRound l) 0 P (Exit.then (λa₁ W₁=>∃C₁:cd->Prop,(∀k,C₁ k->C k\/W.heap.size<=k)/\I d C₁ W₁/\Ext C W W₁/\
    ∀J,I d C₁ J->Ext (·=l) W₁ J->body.wpIn (fj.inRound l) 0 P (zk I Ix C₁ J (d++[x])) a₁ J) (λ_ _ _=>jp))
    {tmps:=(ps.zip (rS x)).foldl (λt (p,v)=>t.setIfInBounds p v) a.tmps,defers:=[]} W)
  (hdone:∀(D:cd)(C:cd->Prop)(W:World),w.heap.size<=D->¬C D->I xs C W->W.heap[D]?=qt (.deferred (qt []))->Q .normal {a with defers:=mark D::a.defers} W)
  (hstop:∀(D:cd)(c:Code)(d:bm α)(C:cd->Prop)(W:World),w.heap.size<=D->¬C D->d<+:xs->Ix c d C W->W.heap[D]?=qt (.deferred (qt []))->c.wp P Q {a with defers:=mark D::a.defers} W):
  (Code.rangeFunc g ps assign body).wp P Q a w:=by
 have eg:∀args w,(callFunc gf args).run P w= .ok (.enter gf args) w:=enters_of hf sR hb;refine(nh (n:=0)).1 (wpIn_rangeFunc ?_);intro sy _;obtain⟨y,rm⟩:∃y:LoopState->du Code->Loop,y=λst pe=>{state:=st,pending:=pe,fn:=sy,tmps:=a.tmps,params:=ps,assign,body,defers:=w.heap.size}:=⟨_,rfl⟩
 obtain⟨W1,rN⟩:=zE ((w.alloc (.deferred (qt []))).alloc (.loop (y .ready qu)));obtain⟨D,hD⟩:=zE w.heap.size;obtain⟨l,hl⟩:=zE (w.heap.size+1);have tz:W1.heap.size=w.heap.size+2:=by rw[<-rN];simp
 have sY:W1.heap[l]?=qt (.loop (y .ready qu)):=by
  rw[<-rN,<-hl];have:=World.alloc_heap_new (w.alloc (.deferred (qt []))) (.loop (y .ready qu));rwa [World.size_alloc] at this
 have te:W1.heap[D]?=qt (.deferred (qt [])):=by
  rw[<-rN,<-hD];exact(bt _ _ _ (by simp)).trans (World.alloc_heap_new w _)
 have sB:Ext (λ_=>jp) w W1:=by rw[<-rN];exact((Ext.refl _ w).alloc _).alloc _
 have tf:I [] C0 W1:=hI _ _ _ _ h0 (sB.mono (λ_ h=>h.elim));have th:aq w0.heap.size w0 W1:=sx.trans ((sB.below (bp _) (λ_ h=>h.elim)).mono sx.size);refine⟨l,[mark D],W1,{target:= .fn (.func gf) lb,args:=#[.func (.yield l) #[] #[]]},W1,gf,#[.func (.yield l) #[] #[]]++lb,W1, ?_, ?_,λ_ _=>trivial, ?_,λh=>by simp[fj] at h, ?_⟩
 ·rw[<-rN,rm,<-hl,<-hD];exact run_enterLoop_outer _ _ _ _ _
 ·simp only[resolve,hg]
  simp[go_sem]
 ·simp[invoke,go_sem,eg]
 have ti:=sT l
  (λd C W=>∃o:cd->Prop,(∀k,C k↔o k\/k=l\/k=D)/\¬o l/\¬o D/\I d o W/\W.heap[l]?=qt (.loop (y .ready qu))/\W.heap[D]?=qt (.deferred (qt [])))
  (λd W=>∃(o:cd->Prop) (c:Code),¬o l/\¬o D/\Ix c d o W/\W.heap[l]?=qt (.loop (y .done (qt c)))/\W.heap[D]?=qt (.deferred (qt [])))
  (λk=>C0 k\/k=l\/k=D) W1 th ?hst ?hC ?hstx ?hY ⟨C0,λ_=>Iff.rfl,λh=>by have:=(hIC _ _ _ h0 l h).1;omega,λh=>by have:=(hIC _ _ _ h0 D h).1;omega,tf,sY,te⟩
 case hst=>
  rintro d C X Y ⟨o,A,n1,n2,K,h1,h2⟩ hx;refine⟨o,A,n1,n2,hI _ _ _ _ K (hx.mono λk G=>⟨by omega,λh=>G.2 ((A k).2 (.inl h))⟩),hx.heap h1 (λh=>h.2 ((A l).2 (by simp))),hx.heap h2 (λh=>h.2 ((A D).2 (by simp)))⟩
 case hC=>
  rintro d C X ⟨o,A,n1,n2,K,h1,h2⟩ k G;rcases(A k).1 G with h|rfl|rfl
  ·exact hIC _ _ _ K k h
  ·exact⟨(bb.1 h1).1,λh=>by have:=hRd _ h;omega⟩
  ·exact⟨(bb.1 h2).1,λh=>by have:=hRd _ h;omega⟩
 case hstx=>
  rintro d X Y ⟨o,c,n1,n2,K,h1,h2⟩ hx;exact⟨o,c,n1,n2,hIx _ _ _ _ _ K (hx.mono λ_ h=>h.elim),hx.heap h1 (λh=>h),hx.heap h2 (λh=>h)⟩
 case hY=>
  rintro d x C W ⟨o,A,n1,n2,K,rn,rK⟩ sq;have tA:l<W.heap.size:=(bb.1 rn).1;have tB:D<W.heap.size:=(bb.1 rK).1;have hy:=run_yield (P:=P) (args:=rS x) rn (by rw[rm];exact sX x);rw[rm] at hy;refine jO (m:=0) ⟨sy,_,assign,body,hy,roundIn_of_wpIn trivial (wpIn_mono (hround l d x o W (by omega) K sq) ?_)⟩;intro e a₁ W₁ hq;cases e with
  |normal=>
   obtain⟨C₁,se,tj,rL,tl⟩:=hq;have sE:=rL.heap rn n1;have tm:=rL.heap rK n2;have m1:¬C₁ l:=λh=>by rcases se l h with h|h;exact n1 h;omega
   have m2:¬C₁ D:=λh=>by rcases se D h with h|h;exact n2 h;omega
   refine⟨_,run_beginRound sE (by rw[rm]), ?_⟩;obtain⟨J,sr⟩:∃J,W₁.putObj l (.loop {y .ready qu with state:= .busy})=J:=⟨_,rfl⟩
   rw[sr];have rr:Ext (·=l) W₁ J:=by rw[<-sr];exact Ext.putObj _ _ _
   have tn:J.heap[l]?=qt (.loop {y .ready qu with state:= .busy}):=by rw[<-sr];exact World.putObj_heap_same (bb.1 sE).1
   have tp:J.heap[D]?=qt (.deferred (qt [])):=rr.heap tm (by omega);have tr:I d C₁ J:=hI _ _ _ _ tj (rr.mono λk G=>by subst G;exact⟨by omega,m1⟩);refine wpIn_mono (tl J tr rr) ?_;have tt:Ext C W W₁:=rL.mono λk h=>(A k).2 (.inl h);have sf:∀(q:du Code)(f:cd->Prop)(W₃:World),(∀k,f k->C₁ k\/J.heap.size<=k)->Ext C₁ J W₃->
     (Instr.endRound l q).run P W₃= .ok (re q.isNone) (W₃.putObj l (.loop (y (if q.isNone then .ready else .done) q)))/\
     (W₃.putObj l (.loop (y (if q.isNone then .ready else .done) q))).heap[l]?=qt (.loop (y (if q.isNone then .ready else .done) q))/\
     (W₃.putObj l (.loop (y (if q.isNone then .ready else .done) q))).heap[D]?=qt (.deferred (qt []))/\¬f l/\¬f D/\Ext C W (W₃.putObj l (.loop (y (if q.isNone then .ready else .done) q)))/\
     Ext (λk=>w.heap.size<=k/\¬f k) W₃ (W₃.putObj l (.loop (y (if q.isNone then .ready else .done) q)))/\(∀k,f k->o k\/W.heap.size<=k):=by
    intro q f W₃ R rl;have sL:=rl.heap tn m1;have tv:=rl.heap tp m2;have u:=run_endRound (P:=P) q sL;rw[rm] at u⊢;have q1:¬f l:=λh=>by rcases R l h with h|h;exact m1 h;have:=rr.size;have:=rL.size;omega
    have q2:¬f D:=λh=>by rcases R D h with h|h;exact m2 h;have:=rr.size;have:=rL.size;omega
    refine⟨u,World.putObj_heap_same (bb.1 sL).1,(World.putObj_heap_other (by omega)).trans tv,q1,q2, ?_,(Ext.putObj _ _ _).mono (λk G=>by subst G;exact⟨by omega,q1⟩), ?_⟩
    ·refine((tt.trans rr (λj hj=> .inl ((A j).2 (by simp[hj])))).trans rl (λj hj=> ?_)).trans (Ext.putObj _ _ _) (λj hj=> .inl ((A j).2 (by simp[hj])))
     rcases se j hj with h|h
     ·exact .inl ((A j).2 (.inl h))
     ·exact .inr h
    ·intro k G
     rcases R k G with h|h
     ·exact se k h
     ·right;have:=rr.size;have:=rL.size;omega
   intro e a3 W3 hp;cases e with
   |normal=>
    obtain⟨f,R,rv,rl⟩:=hp;obtain⟨u,rx,rB,q1,q2,sk,rI,sn⟩:=sf qu f W3 R rl;refine⟨_,_,u,_,rfl,.inl ⟨rfl,λk=>f k\/k=l\/k=D,λk G=> ?_,⟨f,λ_=>Iff.rfl,q1,q2,hI _ _ _ _ rv rI,rx,rB⟩,sk⟩⟩;rcases G with h|h|h
    ·rcases sn k h with h|h
     ·exact .inl ((A k).2 (.inl h))
     ·exact .inr h
    ·exact .inl ((A k).2 (by simp[h]))
    ·exact .inl ((A k).2 (by simp[h]))
   |ret=>
    obtain⟨f,R,rv,rl⟩:=hp;obtain⟨u,rx,rB,q1,q2,sk,rI,sn⟩:=sf (qt .ret) f W3 R rl;exact⟨_,_,u,_,rfl,.inr ⟨rfl,f,.ret,q1,q2,hIx _ _ _ _ _ rv rI,rx,rB⟩⟩
   |exit id=>
    obtain⟨f,R,rv,rl⟩:=hp;obtain⟨u,rx,rB,q1,q2,sk,rI,sn⟩:=sf (qt (.exit id)) f W3 R rl;exact⟨_,_,u,_,rfl,.inr ⟨rfl,f,.exit id,q1,q2,hIx _ _ _ _ _ rv rI,rx,rB⟩⟩
   |goto t=>
    obtain⟨f,R,rv,rl⟩:=hp;obtain⟨u,rx,rB,q1,q2,sk,rI,sn⟩:=sf (qt (.goto t)) f W3 R rl;exact⟨_,_,u,_,rfl,.inr ⟨rfl,f,.goto t,q1,q2,hIx _ _ _ _ _ rv rI,rx,rB⟩⟩
   |panic ch=>exact hp.elim
   |outgrown=>exact hp.elim
  |exit _=>exact hq.elim
  |goto _=>exact hq.elim
  |ret=>exact hq.elim
  |panic _=>exact hq.elim
  |outgrown=>exact hq.elim
 refine CallsIn.mono ((callsIn_wide (n:=0-1)).2 ti) ?_;rintro e W2 ⟨v,rfl,(⟨f,o,A,n1,n2,K,rn,rK⟩|⟨d,sq,o,c,n1,n2,K,rn,rK⟩)⟩
 ·have u:=run_endLoop (P:=P) rn (by rw[rm];simp)
  rw[rm] at u;refine⟨qu,_,u,hdone D o _ (by omega) n2 (hI _ _ _ _ K ((Ext.putObj _ _ _).mono λk G=>by subst G;exact⟨by omega,n1⟩)) ((World.putObj_heap_other (by omega)).trans rK)⟩
 ·have u:=run_endLoop (P:=P) rn (by rw[rm];simp)
  rw[rm] at u;refine⟨qt c,_,u,nh.2 (hstop D c d o _ (by omega) n2 sq (hIx _ _ _ _ _ K ((Ext.putObj _ _ _).mono λk G=>by subst G;exact⟨by omega,n1⟩)) ((World.putObj_heap_other (by omega)).trans rK))⟩
theorem bytes_inj {x y:aw}(h:x.data.toList=y.data.toList):x=y:=by
 obtain⟨a⟩:=x;obtain⟨b⟩:=y;have:a=b:=Array.ext' h;rw[this]
instance Dr:LawfulBEq aw where
 eq_of_beq {a b} h:=bytes_inj (by have:a.data=b.data:=eq_of_beq (show(a.data==b.data)=qv from h);rw[this])
 rfl {a}:=show(a.data==a.data)=qv from BEq.rfl
theorem DC {x y:aw}(h:x≠y):Lit.string x.data.toList≠Lit.string y.data.toList:=λe=>h (bytes_inj (by simpa using e))
theorem alloc_at (w:World)(o:Obj):(w.alloc o).heap[w.heap.size]?=qt o:=World.alloc_heap_new w o
theorem Bd {α:Type}(l:bm α)(p:α->Bool){q:cd}{x:α}(h:l[q]?=qt x):(l.take (q+1)).any p=((l.take q).any p||p x):=by
 rw[lP,h,List.any_append];simp
def aH {α:Type}(cells:α->cG bw)(f:cd)(w:World)(B:cd)(h:du oA)(xs:bm α):Prop:=
 xs≠[]->∃b d,h=qt ⟨b,d,qu⟩/\b<B/\∀i x,xs[i]?=qt x->∀k u,(cells x).toList[k]?=qt u->w.cell? ⟨b,d+i*f+k,qu⟩=qt u
theorem aH.below {α:Type}{cells:α->cG bw}{d:cd}{w w':World}{B n:cd}{f:du oA}{xs:bm α}(h:aH cells d w B f xs)(q:aq n w w')(v:B<=n):aH cells d w' B f xs:=by
 intro y;obtain⟨b,A,D,o,G⟩:=h y;exact⟨b,A,D,o,λi x J k u K=>by rw[q.cell (p:=⟨b,_,qu⟩) (cn o v)];exact G i x J k u K⟩
structure Be where
 nm:aw
 fA:du oA
 nf:cd
 fC:cd
 ln:cj
 cl:cj
def Be.cells (s:Be):cG bw:=#[qT s.nm,ra s.fA s.nf s.fC,Z U s.ln,Z U s.cl]
def Be.light (s:Be):Prop:=s.nf<=40/\s.nm.size<=60
def Ins.ok (i:Ins):Prop:=(∃d cap,i.argsV= ra d i.args.length cap)/\∃d n cap,i.modeV= ra d n cap
def Ins.light (i:Ins):Prop:=i.args.length<=40/\(∃d n cap,i.modeV= ra d n cap/\n<=40)/\i.sign.size<=20
def nJ.light (c:nJ):Prop:=c.ins.length<=400/\c.nvars<=400/\c.nm.size<=60/\c.nfrom<=40/\∀x∈c.ins,x.light
def dm:bm nJ->cd
 |[]=>0
 |c::r=>c.ins.length+c.nvars+dm r
theorem oL (a b:bm nJ):dm (a++b)=dm a+dm b:=by
 induction a with
 |nil=>simp[dm]
 |cons x r ih=>simp[dm,ih];omega
def xK (ss:bm Be)(d:bm nJ):Prop:=ss.length<=40/\d.length<=70/\(∀s∈ss,s.light)/\(∀c∈d,c.light)/\dm d<=1200
def tV (w:World)(B:cd)(p:Prop)(e:Ending)(w':World):Prop:=∃b:Bool,e= rk (re b)/\(b=qv->p)/\aq B w w'
theorem bY {α:Type}{p:α->Prop}{xs:bm α}{j:cd}{x:α}(h:∀y∈xs.take j,p y)(f:xs[j]?=qt x)(o:p x):∀y∈xs.take (j+1),p y:=by
 rw[cZ f];intro y q;rcases cC.1 q with d|d
 ·exact h y d
 ·simp at d;subst d;exact o
theorem tX (w:World)(sA fA:du oA)(sC fC:cd)(ss:bm Be)(d:bm nJ)(sq:aH Be.cells 4 w w.heap.size sA ss)(sr:aH nJ.cells 8 w w.heap.size fA d)
  (sx:∀c∈d,iU w w.heap.size c.insA c.ins)(sy:∀c∈d,∀x∈c.ins,x.ok)(hs:ss.length<=9223372036854775807)(hc:d.length<=9223372036854775807):
  ft ac 70 #[rh #[ra sA ss.length sC,ra fA d.length fC]] w (tV w w.heap.size (xK ss d)):=by
 have sB:=zH sq;have sE:=zH sr;have sL:=zH sx;have th:=zH sy;clear sq sr sx sy
 by_cases g1:40<ss.length
 ·go_enter func70,ntmps70
  go_wp2;go_ret;exact⟨_,rfl,by simp,(an _ _).alloc (bp _) _⟩
 by_cases g2:70<d.length
 ·go_enter func70,ntmps70
  go_wp2;go_ret;exact⟨_,rfl,by simp,(an _ _).alloc (bp _) _⟩
 go_enter func70,ntmps70;go_wp2;obtain⟨N,A⟩:=zE w.heap.size;obtain⟨v,rn⟩:=zE (w.alloc (rj #[ra sA ss.length sC,ra fA d.length fC] 25));have rr:=gQ rn A;have rK:v.heap[N]?=qt (rj #[ra sA ss.length sC,ra fA d.length fC] 25 (0,0)):=by rw[<-rn,<-A];exact alloc_at _ _
 have ti:v.heap.size=N+1:=by rw[<-rn];simp[A]
 have tU:=zR rK 0 (ra sA ss.length sC);have tj:=zR rK 1 (ra fA d.length fC);have tl:ca (aH Be.cells 4 v N sA ss):=by have:=sB.out;rw[A] at this;exact this.below rr (bp _)
 have tm:ca (aH nJ.cells 8 v N fA d):=by have:=sE.out;rw[A] at this;exact this.below rr (bp _)
 have tn:ca (∀c∈d,iU v N c.insA c.ins):=λc hc=>by have:=sL.out c hc;rw[A] at this;exact iU.below this rr (bp _)
 rw[rn,A];have G:=zH rr;have tW:N<v.heap.size:=by omega
 clear rn rr rK sB sE sL ti
 go_loop [4] (λc=>∃j:cd,j<=ss.length/\c= Z U (j:cj)/\∀s∈ss.take j,s.light) (λc=>ss.length-(intOf c).toNat)
 case atStart=>exact⟨0,cJ _,rfl,by simp⟩
 case round=>
  obtain⟨j,hj,rfl,D⟩:=hrel;have sR:=zH D;clear D
  by_cases J:j<ss.length
  ·obtain⟨s,rB⟩:∃s,ss[j]?=qt s:=⟨_,am J⟩
   obtain⟨b,f,rfl,sT,h⟩:=tl.out (by intro e;rw[e] at J;simp at J);have q0:v.cell? ⟨b,f+j*4,qu⟩=qt (qT s.nm):=h j s rB 0 _ rfl;have q1:v.cell? ⟨b,f+j*4+1,qu⟩=qt (ra s.fA s.nf s.fC):=h j s rB 1 _ rfl;have tp:=zH rB;clear rB h
   by_cases c1:40<s.nf
   ·go_wp2
    go_ret;exact⟨_,rfl,by simp,G.out⟩
   ·by_cases c2:60<s.nm.size
    ·go_wp2
     go_ret;exact⟨_,rfl,by simp,G.out⟩
    ·go_wp2
     go_round
     case rel=>exact⟨j+1,by omega,by go_num,bY sR.out tp.out ⟨by omega,by omega⟩⟩
     case measure=>simp[intOf];omega
  ·have rL:j=ss.length:=by omega
   subst rL;have tr:ca (∀s∈ss,s.light):=by have:=sR.out;rwa [cT] at this
   go_wp2
   go_loopw [3,5] (λn c wr=>∃j:cd,j<=d.length/\c= Z U (j:cj)/\n= Z U ((dm (d.take j):cd):cj)/\dm (d.take j)<=1200/\(∀x∈d.take j,x.light)/\aq (N+1) v wr) (λ_ c _=>d.length-(intOf c).toNat)
   case atStart=>exact⟨0,cJ _,rfl,rfl,by simp[dm],by simp,an _ _⟩
   case round=>
    obtain⟨j,hj,rfl,rfl,ht,D,rN⟩:=hrel;have sX:=zH D;have K:=zH rN;have ua:wr.cell? ⟨N,1,qu⟩=qt (ra fA d.length fC):=by rw[rN.cell (p:=⟨N,1,qu⟩) (by simp)];exact tj
    clear D rN
    by_cases J:j<d.length
    ·obtain⟨c,rS⟩:∃c,d[j]?=qt c:=⟨_,am J⟩
     obtain⟨b,f,rfl,sT,h⟩:=tm.out (by intro e;rw[e] at J;simp at J);have y:∀k u,c.cells.toList[k]?=qt u->wr.cell? ⟨b,f+j*8+k,qu⟩=qt u:=λk u hu=>by rw[K.out.cell (p:=⟨b,_,qu⟩) (Nat.lt_succ_of_lt sT)];exact h j c rS k u hu
     have q0:wr.cell? ⟨b,f+j*8,qu⟩=qt (qT c.nm):=y 0 _ rfl;have q1:wr.cell? ⟨b,f+j*8+1,qu⟩=qt (Z U c.par):=y 1 _ rfl;have q2:wr.cell? ⟨b,f+j*8+2,qu⟩=qt (ra c.varsA c.nvars c.varsC):=y 2 _ rfl;have q3:wr.cell? ⟨b,f+j*8+3,qu⟩=qt (re c.rp):=y 3 _ rfl;have q4:wr.cell? ⟨b,f+j*8+4,qu⟩=qt (qT c.rto):=y 4 _ rfl;have q5:wr.cell? ⟨b,f+j*8+5,qu⟩=qt (Z U c.rcl):=y 5 _ rfl;have q6:wr.cell? ⟨b,f+j*8+6,qu⟩=qt (ra c.fromA c.nfrom c.fromC):=y 6 _ rfl;have q7:wr.cell? ⟨b,f+j*8+7,qu⟩=qt (ra c.insA c.ins.length c.insC):=y 7 _ rfl;have rI:=zH rS;clear rS h y;have rv:∀o:Obj,aq N w (wr.alloc o):=λo=>(G.out.trans (K.out.mono (by omega))).alloc (by have:=K.out.size;omega) _;have tt:N+1<=wr.heap.size:=by have:=K.out.size;omega
     by_cases c1:400<c.ins.length
     ·go_wp2
      go_ret;exact⟨_,rfl,by simp,rv _⟩
     by_cases c2:400<c.nvars
     ·go_wp2
      go_ret;exact⟨_,rfl,by simp,rv _⟩
     by_cases c3:60<c.nm.size
     ·go_wp2
      go_ret;exact⟨_,rfl,by simp,rv _⟩
     by_cases c4:40<c.nfrom
     ·go_wp2
      go_ret;exact⟨_,rfl,by simp,rv _⟩
     have se:ca (dm (d.take (j+1))=dm (d.take j)+(c.ins.length+c.nvars)):=by
      unfold ca;rw[cZ rI.out,oL];simp[dm]
     obtain⟨T,hT⟩:∃T,T=dm (d.take j):=⟨_,rfl⟩
     rw[<-hT] at ht se⊢;clear hT
     by_cases c5:1200<T+c.ins.length+c.nvars
     ·go_wp2
      go_ret;exact⟨_,rfl,by simp,rv _⟩
     go_wp2;obtain⟨R,rl⟩:=zE (wr.alloc (rj c.cells 38));obtain⟨M,hM⟩:=zE wr.heap.size;have sY:R.heap[M]?=qt (rj c.cells 38 (0,0)):=by rw[<-rl,<-hM];exact alloc_at _ _
     have tv:=zR sY 7 (ra c.insA c.ins.length c.insC);have rx:ca (aq (N+1) v R):=by rw[<-rl];exact K.out.alloc tt _
     have tz:ca (iU R N c.insA c.ins):=iU.below (tn.out c (ce rI.out)) rx.out (by omega);have tA:ca (∀x∈c.ins,x.ok):=th.out c (ce rI.out);have ub:=zH rl;simp only[nJ.cells] at rl;rw[rl,hM];clear rl sY hM q0 q1 q2 q3 q4 q5 q6 q7
     go_loop [7] (λk=>∃q:cd,q<=c.ins.length/\k= Z U (q:cj)/\∀x∈c.ins.take q,x.light) (λk=>c.ins.length-(intOf k).toNat)
     case atStart=>exact⟨0,cJ _,rfl,by simp⟩
     case round=>
      obtain⟨q,hq,rfl,D⟩:=hrel;have te:=zH D;clear D
      by_cases sf:q<c.ins.length
      ·obtain⟨x,rm⟩:∃x,c.ins[q]?=qt x:=⟨_,am sf⟩
       obtain⟨b2,sk,hA2,uc,h⟩:=tz.out (by intro e;rw[e] at sf;simp at sf);obtain⟨⟨tB,tD,tf⟩,tE,nm,tG,sn⟩:=tA.out x (ce rm);have r7:R.cell? ⟨b2,sk+q*13+7,qu⟩=qt (ra tB x.args.length tD):=h q x rm 7 _ (by rw[<-tf];rfl);have r8:R.cell? ⟨b2,sk+q*13+8,qu⟩=qt (ra tE nm tG):=h q x rm 8 _ (by rw[<-sn];rfl);have r6:R.cell? ⟨b2,sk+q*13+6,qu⟩=qt (qT x.sign):=h q x rm 6 _ rfl;rw[hA2] at tv;have tM:=zH rm;have tP:=zH sn;clear rm h hA2 tf sn
       by_cases d1:40<x.args.length
       ·go_wp2
        go_ret;exact⟨_,rfl,by simp,G.out.trans (rx.out.mono (by omega))⟩
       by_cases d2:40<nm
       ·go_wp2
        go_ret;exact⟨_,rfl,by simp,G.out.trans (rx.out.mono (by omega))⟩
       by_cases d3:20<x.sign.size
       ·go_wp2
        go_ret;exact⟨_,rfl,by simp,G.out.trans (rx.out.mono (by omega))⟩
       go_wp2
       go_round
       case rel=>exact⟨q+1,by omega,by go_num,bY te.out tM.out ⟨by omega,⟨_,_,_,tP.out,by omega⟩,by omega⟩⟩
       case measure=>simp[intOf];omega
      ·have tR:q=c.ins.length:=by omega
       subst tR;have tS:ca c.light:=by
        refine⟨by omega,by omega,by omega,by omega, ?_⟩;have:=te.out;rwa [cT] at this
       go_wp2;go_roundw
       case rel=>exact⟨j+1,by omega,by go_num,by rw[se.out];go_num,by rw[se.out];omega,bY sX.out rI.out tS.out,rx.out⟩
       case measure=>simp[intOf];omega
    ·have rL:j=d.length:=by omega
     subst rL;have HM:ca (xK ss d):=by
      refine⟨by omega,by omega,tr.out, ?_, ?_⟩
      ·have:=sX.out;rwa [cT] at this
      ·rwa [cT] at ht
     go_wp2;go_ret;have hh:aq N w wr:=G.out.trans (K.out.mono (by omega));exact⟨_,rfl,λ_=>HM.out,by first|exact hh|(rw[A];exact hh)⟩
section
open Go.RowKit Go.ChangeShapes Go.WideShapes Go.Deep
theorem jP {α:Type}(p:cd->α->Prop):∀n,(∀i,i<n->∃a,p i a)->∃xs:bm α,xs.length=n/\∀i x,xs[i]?=qt x->p i x
 |0,_=>⟨[],rfl,λi x h=>by simp at h⟩
 |n+1,h=>by
  obtain⟨xs,f,o⟩:=jP p n (λi d=>h i (by omega));obtain⟨a,q⟩:=h n (by omega);refine⟨xs++[a],by simp[f],λi x d=> ?_⟩;rcases Nat.lt_or_ge i n with v|y
  ·rw[mB (by omega)] at d;exact o i x d
  ·have u:i<(xs++[a]).length:=(bl.1 d).1
   simp[f] at u;obtain rfl:i=n:=by omega
   rw[fi (by omega),f] at d;simp at d;subst d;exact q
theorem tY {w:World}{a:oA}{v:bw}(h:w.cell? a=qt v):a=⟨a.block,a.off,qu⟩/\a.block<w.heap.size:=by
 unfold World.cell? at h
 split at h
 ·rename_i d
  have f:=(bb.1 d).1;obtain⟨b,o,s⟩:=a;cases s with
  |none=>exact⟨rfl,f⟩
  |some s=>simp at h
 ·simp at h
section
variable {H:Type}{enc:ge×bw->H}{P:i8}{w:World}{base:cd}{spare:cd->Bool}{held:Bool}
theorem open_row {α:Type}(cells:α->cG bw)(Q:α->Prop){t e:ge}{fuel:cd}{d:bm bw}{x:DataW H×bm ml}(f:cd)(hst:0<f)(ht:P.underlying t=qt (.slice e))(K:P.cellsOf e=f)
  (rB:∀(n:cd)(d:bm bw)(x:DataW H×bm ml),ie enc P w base spare held n e d=qt x->∃a:α,(cells a).toList=d/\Q a)
  (h:ie enc P w base spare held fuel t d=qt x):
  ∃(R:du oA) (xs:bm α) (cap:cd),d=[.slice R xs.length cap]/\xs.length<=dl/\aH cells f w w.heap.size R xs/\∀a∈xs,Q a:=by
 rcases open_slice ht h with⟨rfl,_⟩|⟨a,rl,cap,m,n,D,Pl,rfl,hb,hl,hm,rI,hx,hi⟩
 ·exact⟨qu,[],0,rfl,cJ _,λA=>fL rfl A,λa v=>fL v (by simp)⟩
 ·have se:rl<=m:=by rw[rI];split<;>omega
  obtain⟨xs,rK,rm⟩:=jP (λi (x:α)=>Q x/\∀k u,(cells x).toList[k]?=qt u->w.cell? (a.add (i*f+k))=qt u) rl (by
   intro i sf;obtain⟨rn,G,rr⟩:=hi i (by omega);obtain⟨x,rv,rL⟩:=rB n rn _ rr;obtain⟨_,y,q⟩:=World.cells?_some G;rw[K] at y q;refine⟨x,rL,λk u hk=> ?_⟩;have rN:k<f:=by rw[<-y,<-rv];exact(bl.1 hk).1
   have:=q k rN;rw[<-Go.Deep.add_add,this,<-rv];exact hk)
  refine⟨qt a,xs,cap,by rw[rK],by omega,λA=> ?_,λx hx=> ?_⟩
  ·have sk:0<xs.length:=oY.2 A
   obtain⟨rn,G,rr⟩:=hi 0 (by omega);obtain⟨_,y,q⟩:=World.cells?_some G;rw[K] at y q;have h0:=q 0 hst;rw[am (by omega),Nat.zero_mul] at h0;obtain⟨v,rS⟩:=tY h0;have rx:a=⟨a.block,a.off,qu⟩:=by
    obtain⟨b,o,s⟩:=a;simp[Addr.add] at v⊢;exact v
   refine⟨a.block,a.off,by rw[<-rx],by simpa[Addr.add] using rS,λi x J k u hu=> ?_⟩;have:=(rm i x J).2 k u hu;rw[rx,cM,<-Nat.add_assoc] at this;exact this
  ·obtain⟨i,J⟩:=List.mem_iff_getElem?.1 hx
   exact(rm i x J).1
end
theorem DF {H:Type}{enc:ge×bw->H}{P:i8}{w:World}{base:cd}{spare:cd->Bool}{held:Bool}{r:Reach}{o:cd}{t:ge}{q:cG Field}{v:bw}{d:DataW H}{p:bm ml}(u:P.underlying t=qt (.struct q))
  (y:Value.okWide P w r o t v)(h:DataW.Trod enc P w base spare held t v d p):∃(f:cG bw) (fuel:cd),v= .agg f/\ie enc P w base spare held fuel t f.toList=qt (d,p):=by
 obtain⟨f,rfl,_⟩:=okWide_struct u y;obtain⟨fuel,A⟩:=h;exact⟨f,fuel,rfl,by simpa[Value.cells] using A⟩
section
variable {H:Type}{enc:ge×bw->H}{w:World}{base:cd}{spare:cd->Bool}{held:Bool}
def jr (w:World)(d:du oA)(xs:bm cj):Prop:=aH (λz:cj=>#[Z U z]) 1 w w.heap.size d xs
theorem iK {fuel:cd}{d:bm bw}{x:DataW H×bm ml}(h:ie enc ac w base spare held fuel 35 d=qt x):
  ∃(f:du oA) (xs:bm cj) (cap:cd),d=[.slice f xs.length cap]/\xs.length<=dl/\jr w f xs/\∀z∈xs,(Lit.int .i64 z).wf=qv:=by
 refine open_row _ (λz=>(Lit.int .i64 z).wf=qv) 1 (by decide) gt (by kernel_rfl) (λn d x o=> ?_) h;obtain⟨z,rfl,_,q⟩:=dk cP o;exact⟨z,rfl,q⟩
def Ins.args_in (w:World)(i:Ins):Prop:=i.ok/\∃d cap,i.argsV= ra d i.args.length cap/\jr w d i.args
theorem Bf {n:cd}{v:bm bw}{x:DataW H×bm ml}(h:ie enc ac w base spare held n 42 v=qt x):∃i:Ins,i.cells.toList=v/\i.args_in w:=by
 obtain⟨xs,m,_,_,y,rr,o⟩:=ef cr h;have hc:ac.cellsOf 42=13:=by kernel_rfl
 have tf:xs.length=12:=rr;rw[hc] at y;obtain⟨c0,th,e0,rv⟩:=zU y;obtain⟨c1,ti,e1,rx⟩:=zU rv;obtain⟨c2,tj,e2,rB⟩:=zU rx;obtain⟨c3,tl,e3,rI⟩:=zU rB;obtain⟨c4,tm,e4,rK⟩:=zU rI;obtain⟨c5,tn,e5,rL⟩:=zU rK;obtain⟨c6,tp,e6,rN⟩:=zU rL;obtain⟨c7,tr,e7,rS⟩:=zU rN;obtain⟨c8,tt,e8,se⟩:=zU rS;obtain⟨c9,tv,e9,sf⟩:=zU se;obtain⟨sk,tz,sn,sq⟩:=zU sf;obtain⟨sr,tA,sx,sy⟩:=zU sq;obtain⟨sB,tB,sE,sL⟩:=zU sy;obtain rfl:=cY sL;subst sE sx sn e9 e8 e7 e6 e5 e4 e3 e2 e1 e0;have g0:=(o 0 _ rfl).trans (am (show 0<xs.length by omega));obtain⟨op,r0,_,_⟩:=dk cP g0;obtain rfl:c0= .int .i64 op:=by simpa[show ac.cellsOf 3=1 from by kernel_rfl] using r0
 have g1:=(o 1 _ rfl).trans (am (show 1<xs.length by omega));obtain⟨d,r1,_,_⟩:=dk cP g1;obtain rfl:c1= .int .i64 d:=by simpa[show ac.cellsOf 3=1 from by kernel_rfl] using r1
 have g2:=(o 2 _ rfl).trans (am (show 2<xs.length by omega));obtain⟨a,r2,_,_⟩:=dk cP g2;obtain rfl:c2= .int .i64 a:=by simpa[show ac.cellsOf 3=1 from by kernel_rfl] using r2
 have g3:=(o 3 _ rfl).trans (am (show 3<xs.length by omega));obtain⟨b,r3,_,_⟩:=dk cP g3;obtain rfl:c3= .int .i64 b:=by simpa[show ac.cellsOf 3=1 from by kernel_rfl] using r3
 have g4:=(o 4 _ rfl).trans (am (show 4<xs.length by omega));obtain⟨f,r4,_,_⟩:=dk cP g4;obtain rfl:c4= .int .i64 f:=by simpa[show ac.cellsOf 3=1 from by kernel_rfl] using r4
 have g5:=(o 5 _ rfl).trans (am (show 5<xs.length by omega));obtain⟨n,r5,_,_⟩:=dk underlying2 g5;obtain rfl:c5= .int .i64 n:=by simpa[show ac.cellsOf 2=1 from by kernel_rfl] using r5
 have g6:=(o 6 _ rfl).trans (am (show 6<xs.length by omega));obtain⟨A,r6,_,_⟩:=jx fY g6;obtain rfl:c6= .string A:=by simpa[show ac.cellsOf 9=1 from by kernel_rfl] using r6
 have g7:=(o 7 _ rfl).trans (am (show 7<xs.length by omega));obtain⟨D,q,G,r7,_,sR,_⟩:=iK g7;obtain rfl:c7= .slice D q.length G:=by simpa[show ac.cellsOf 35=1 from by kernel_rfl] using r7
 have g8:=(o 8 _ rfl).trans (am (show 8<xs.length by omega));obtain⟨J,K,R,r8,_,tD,_⟩:=iK g8;obtain rfl:c8= .slice J K.length R:=by simpa[show ac.cellsOf 35=1 from by kernel_rfl] using r8
 have g9:=(o 9 _ rfl).trans (am (show 9<xs.length by omega));obtain⟨rl,r9,_,_⟩:=dk cP g9;obtain rfl:c9= .int .i64 rl:=by simpa[show ac.cellsOf 3=1 from by kernel_rfl] using r9
 have sT:=(o 10 _ rfl).trans (am (show 10<xs.length by omega));obtain⟨rm,sX,_,_⟩:=dk cP sT;obtain rfl:sk= .int .i64 rm:=by simpa[show ac.cellsOf 3=1 from by kernel_rfl] using sX
 have sY:=(o 11 _ rfl).trans (am (show 11<xs.length by omega));obtain⟨u,m',_,_,_,te,rn⟩:=ef li sY;have tE:u.length=2:=te;have p0:=(rn 0 _ rfl).trans (am (show 0<u.length by omega));have p1:=(rn 1 _ rfl).trans (am (show 1<u.length by omega));obtain⟨ln,s0,_,_⟩:=dk cP p0;obtain⟨cl,s1,_,_⟩:=dk cP p1;obtain rfl:sr= .int .i64 ln:=by simpa[show ac.cellsOf 3=1 from by kernel_rfl,show ac.cellsOf 40=2 from by kernel_rfl] using s0
 obtain rfl:sB= .int .i64 cl:=by simpa[show ac.cellsOf 3=1 from by kernel_rfl,show ac.cellsOf 40=2 from by kernel_rfl] using s1
 exact⟨⟨op,d,a,b,f,n,A,.slice D q.length G,.slice J K.length R,rl,rm,ln,cl,q⟩,rfl,⟨⟨_,_,rfl⟩,_,_,_,rfl⟩,_,_,rfl,sR⟩
structure Vr where
 ptr:Bool
 tgt:aw
 cls:cj
def Vr.cells (v:Vr):cG bw:=#[re v.ptr,qT v.tgt,Z U v.cls]
theorem zl {n:cd}{f:bm bw}{x:DataW H×bm ml}(h:ie enc ac w base spare held n 34 f=qt x):∃v:Vr,v.cells.toList=f/\True:=by
 obtain⟨xs,m,_,_,o,J,q⟩:=ef underlying34 h;have K:ac.cellsOf 34=3:=by kernel_rfl
 have rv:xs.length=2:=J;rw[K] at o;obtain⟨c0,rx,R,rl⟩:=zU o;obtain⟨c1,rB,e1,rm⟩:=zU rl;obtain⟨c2,rI,e2,rn⟩:=zU rm;obtain rfl:=cY rn;subst e2 e1 R;have g0:=(q 0 _ rfl).trans (am (show 0<xs.length by omega));have g1:=(q 1 _ rfl).trans (am (show 1<xs.length by omega));obtain⟨d,m',_,_,_,rr,u⟩:=ef dr g0;have rK:d.length=2:=rr;have p0:=(u 0 _ rfl).trans (am (show 0<d.length by omega));have p1:=(u 1 _ rfl).trans (am (show 1<d.length by omega));obtain⟨y,s0,_⟩:=DataW.trod_bool fX p0;obtain⟨A,s1,_,_⟩:=jx fY p1;obtain⟨D,s2,_,_⟩:=dk cP g1;have z1:ac.cellsOf 4=1:=by kernel_rfl
 have z2:ac.cellsOf 9=1:=by kernel_rfl
 have z3:ac.cellsOf 3=1:=by kernel_rfl
 have G:ac.cellsOf 32=2:=by kernel_rfl
 obtain rfl:c0= .bool y:=by simpa[z1,G] using s0
 obtain rfl:c1= .string A:=by simpa[z2,G] using s1
 obtain rfl:c2= .int .i64 D:=by simpa[z3] using s2
 exact⟨⟨y,A,D⟩,rfl,trivial⟩
structure nJ.inn (w:World)(c:nJ):Prop where
 row:iU w w.heap.size c.insA c.ins
 args:∀x∈c.ins,x.args_in w
 len:c.ins.length<=dl
 vars:∃vs:bm Vr,vs.length=c.nvars/\aH Vr.cells 3 w w.heap.size c.varsA vs
 nvars:c.nvars<=dl
 nfrom:c.nfrom<=dl
 froms:∃fs:bm cj,fs.length=c.nfrom/\jr w c.fromA fs
end
theorem Ins.args_in.below {w w':World}{i:Ins}(h:i.args_in w)(d:aq w.heap.size w w'):i.args_in w':=by
 obtain⟨f,o,cap,q,u⟩:=h;refine⟨f,o,cap,q,λv=> ?_⟩;obtain⟨b,y,A,D,G⟩:=aH.below u d (bp _) v;exact⟨b,y,A,cn D d.size,G⟩
theorem aH.grow {α:Type}{cells:α->cG bw}{d:cd}{w w':World}{f:du oA}{xs:bm α}(h:aH cells d w w.heap.size f xs)(o:aq w.heap.size w w'):aH cells d w' w'.heap.size f xs:=by
 intro q;obtain⟨b,u,v,y,A⟩:=h.below o (bp _) q;exact⟨b,u,v,cn y o.size,A⟩
theorem nJ.inn.below {w w':World}{c:nJ}(h:c.inn w)(d:aq w.heap.size w w'):c.inn w':=
 ⟨aH.grow (cells:=Ins.cells) h.row d,λx f=>(h.args x f).below d,h.len,let ⟨o,a,b⟩:=h.vars;⟨o,a,b.grow d⟩,h.nvars,h.nfrom,let ⟨q,a,b⟩:=h.froms;⟨q,a,aH.grow b d⟩⟩
end
abbrev Ty:=Bool×aw
def bq:Ty:=(qS,iS)
structure Fd where
 nm:aw
 ptr:Bool
 tgt:aw
 ln:cj
 cl:cj
def Fd.cells (f:Fd):cG bw:=#[qT f.nm,re f.ptr,qT f.tgt,Z U f.ln,Z U f.cl]
def Fd.ty (f:Fd):Ty:=(f.ptr,f.tgt)
def Vr.ty (v:Vr):Ty:=(v.ptr,v.tgt)
structure St where
 s:Be
 fs:bm Fd
def St.cells (s:St):cG bw:=s.s.cells
structure Fn where
 c:nJ
 vs:bm Vr
 frm:bm cj
 mds:bm (bm cj)
def Fn.cells (f:Fn):cG bw:=f.c.cells
def Fn.ret (f:Fn):Ty:=(f.c.rp,f.c.rto)
structure Mo where
 sA:du oA
 sC:cd
 fA:du oA
 fC:cd
 ss:bm St
 fs:bm Fn
def Mo.cells (m:Mo):cG bw:=#[ra m.sA m.ss.length m.sC,ra m.fA m.fs.length m.fC]
structure Fn.inn (w:World)(f:Fn):Prop where
 code:f.c.inn w
 nm:f.c.nm.size<=dl
 nvars:f.c.nvars=f.vs.length
 vars:aH Vr.cells 3 w w.heap.size f.c.varsA f.vs
 nfrom:f.c.nfrom=f.frm.length
 frm:jr w f.c.fromA f.frm
 nmds:f.mds.length=f.c.ins.length
 mds:∀(k:cd)(i:Ins)(l:bm cj),f.c.ins[k]?=qt i->f.mds[k]?=qt l->∃ao cap,i.modeV= ra ao l.length cap/\jr w ao l
structure St.inn (w:World)(s:St):Prop where
 nf:s.s.nf=s.fs.length
 row:aH Fd.cells 5 w w.heap.size s.s.fA s.fs
 len:s.fs.length<=dl
 nm:s.s.nm.size<=dl
 fnm:∀f∈s.fs,f.nm.size<=dl
structure Mo.inn (w:World)(m:Mo):Prop where
 srow:aH St.cells 4 w w.heap.size m.sA m.ss
 frow:aH Fn.cells 8 w w.heap.size m.fA m.fs
 sin:∀s∈m.ss,s.inn w
 fin:∀f∈m.fs,f.inn w
 ns:m.ss.length<=dl
 nf:m.fs.length<=dl
theorem Fn.inn.below {w w':World}{f:Fn}(h:f.inn w)(d:aq w.heap.size w w'):f.inn w':=
 ⟨h.code.below d,h.nm,h.nvars,h.vars.grow d,h.nfrom,aH.grow h.frm d,h.nmds,λk i l o q=>by
  obtain⟨u,cap,v,y⟩:=h.mds k i l o q;exact⟨u,cap,v,aH.grow y d⟩⟩
theorem St.inn.below {w w':World}{s:St}(h:s.inn w)(d:aq w.heap.size w w'):s.inn w':=⟨h.nf,h.row.grow d,h.len,h.nm,h.fnm⟩
theorem Mo.inn.below {w w':World}{m:Mo}(h:m.inn w)(d:aq w.heap.size w w'):m.inn w':=
 ⟨h.srow.grow d,h.frow.grow d,λs o=>(h.sin s o).below d,λf q=>(h.fin f q).below d,h.ns,h.nf⟩
section
variable {P:i8}{ops:cG ij}{Q:Exit->Act->World->Prop}{md:fy}{S:World->Prop}{k:cd}
inductive gX (md:fy) (ops:cG ij) (k:cd) (listed:cG Bool):cd->Prop
 |last {i:cd} {o:ij} {e:Edge}:listed[i]?=qt qS->ops[k]?=qt o->e∈o.after->ev md e=qv->e.on=i->gX md ops k listed i
 |step {i j:cd} {o:ij} {e:Edge}:listed[i]?=qt qS->ops[j]?=qt o->e∈o.after->ev md e=qv->e.on=i->gX md ops k listed j->gX md ops k listed i
theorem gX.un {listed:cG Bool}{i:cd}(h:gX md ops k listed i):listed[i]?=qt qS:=by cases h<;>assumption
theorem gT {listed:cG Bool}{i j:cd}{o:ij}{e:Edge}(h:listed[i]?=qt qS)(q:ops[j]?=qt o)(u:e∈o.after)(v:ev md e=qv)(y:e.on=i):j∉cN md ops listed:=by
 intro A;obtain⟨_,G,d,D⟩:=mem_ready.1 A;rw[q] at d;obtain rfl:=cX d;have f:=D e u v;rw[y] at f;simp[h] at f
theorem gX.notReady {listed:cG Bool}{i:cd}(h:gX md ops k listed i):k∉cN md ops listed:=by
 induction h with
 |last d f o q u=>exact gT d f o q u
 |step _ _ _ _ _ _ ih=>exact ih
theorem gX.set {listed:cG Bool}{i:cd}(h:gX md ops k listed i){j:cd}(y:j∈cN md ops listed)(v:j≠i):gX md ops k (listed.setIfInBounds j qv) i:=by
 induction h with
 |last d f o q u=>exact .last (by rw[gO v];exact d) f o q u
 |step d f o q u A ih=>exact .step (by rw[gO v];exact d) f o q u (ih (λe=>by subst e;exact gT d f o q u y))
def jQ (md:fy)(ops:cG ij)(k:cd)(listed:cG Bool):cd->cd->Bool
 |0,_=>qS
 |f+1,i=>(listed[i]?==qt qS)&&((ops[k]?).any (λo=>o.after.any λe=>ev md e&&e.on==i)||
   (lR ops.size).any λj=>(ops[j]?).any (λo=>o.after.any λe=>ev md e&&e.on==i)&&jQ md ops k listed f j)
theorem vO {listed:cG Bool}:∀(f i:cd),jQ md ops k listed f i=qv->gX md ops k listed i
 |0,_,h=>by simp[jQ] at h
 |f+1,i,h=>by
  simp only[jQ,eK,gx,nB,ju,np,nF] at h;obtain⟨y,A⟩:=h;rcases A with⟨o,d,e,q,u,v⟩|⟨j,_,⟨o,d,e,q,u,v⟩,D⟩
  ·exact .last y d q u v
  ·exact .step y d q u v (vO f j D)
end
section
variable {P:i8}{ops:cG ij}{md:fy}{C:World->Prop}{Q:Exit->Act->World->Prop}{k:cd}
def oM (P:i8)(md:fy)(ops:cG ij)(C:World->Prop)(Q:Exit->Act->World->Prop)(k:cd):cd->cG Bool->Act->Prop
 |0,_,_=>jp
 |fuel+1,listed,a=>(cN md ops listed=[]->jp)/\
  ∀i∈cN md ops listed,if i=k then(∀w,C w->wpOp P ops Q i (wpAny P md ops Q fuel (listed.setIfInBounds i qv)) a w) else qOp P ops C i (oM P md ops C Q k fuel (listed.setIfInBounds i qv)) a
theorem oN:∀(fuel:cd)(listed:cG Bool)(a:Act)(w:World),C w->oM P md ops C Q k fuel listed a->wpAny P md ops Q fuel listed a w
 |0,_,_,_,_,h=>h.elim
 |fuel+1,listed,a,w,f,h=>by
  refine⟨λh0=>(h.1 h0).elim,λi o=> ?_⟩;have d:=h.2 i o
  by_cases e:i=k
  ·rw[cI e] at d
   exact d w f
  ·rw[cw e] at d
   exact wpOp_of_qOp f (λq w' u v=>oN fuel _ q w' u v) d
theorem tZ {i:cd}{f:ij}{v:bw}(K:ops[i]?=qt f)(R:∀(j:cd)(o:ij) u b,ops[j]?=qt o->o.op≠ .select u b):
  ∀(fuel:cd)(listed:cG Bool)(a:Act),
   (∀j d,ops[j]?=qt d->j≠i->listed.getD j qv=qS->(∀e∈d.after,ev md e=qv->e.on≠i)->f.apart ops d=qv)->
   i∈cN md ops listed->gX md ops k listed i->YieldsIn P ops C f v a->
   oM P md ops C Q k fuel (listed.setIfInBounds i qv) (a.put f.dst v)->oM P md ops C Q k (fuel+1) listed a:=by
 intro fuel
 induction fuel with
 |zero=>intro listed a _ _ _ _ H;exact H.elim
 |succ fuel ih=>
  intro listed a rl G J hy H;refine⟨λh=>(by rw[h] at G;cases G),λj y=> ?_⟩;have A:j≠k:=λe=>by subst e;exact J.notReady y
  rw[cw A]
  by_cases q:j=i
  ·subst q;exact hy.qOp K H
  ·have h1:=H.2 j (lp y q)
   rw[cw A] at h1;obtain⟨rm,d,D,rK⟩:=mem_ready.1 y;have rr:∀e∈d.after,ev md e=qv->e.on≠i:=λe he hb rv=>gT J.un D he hb rv y;have h2:=qOp_put D (rl j d D q rm rr) (λu b=>R i f u b K) (λu b=>R j d u b D) hy h1;have rx:∀k ok,ops[k]?=qt ok->k≠i->(listed.setIfInBounds j qv).getD k qv=qS->
     (∀e∈ok.after,ev md e=qv->e.on≠i)->f.apart ops ok=qv:=λk ok hk rB rn rI=>by
    refine rl k ok hk rB ?_ rI
    by_cases A:j=k
    ·subst A;exact rm
    ·rw[getD_set_ne qv A] at rn;exact rn
   refine qOp_mono (λa' h3=>ih (listed.setIfInBounds j qv) a' rx (lp G (Ne.symm q)) (J.set y q) h3.1 ?_) h2;rw[mC _ _ q];exact h3.2
def sJ (md:fy)(ops:cG ij)(i k:cd):Bool:=
 (lR (k-i)).any λd=>(ops[i+1+d]?).any λo=>o.after.any λe=>ev md e&&e.on==i
theorem vP {listed:cG Bool}:∀(n i:cd),i+n=k->0<n->(∀j,i<=j->j<k->sJ md ops j k=qv/\listed[j]?=qt qS)->gX md ops k listed i
 |0,_,_,h0,_=>fL h0 (Nat.lt_irrefl _)
 |n+1,i,hn,_,h=>by
  obtain⟨q,u⟩:=h i (bp _) (by omega);unfold sJ at q;simp only[ju,oc,np,nF,eK,nB] at q;obtain⟨d,R,o,f,e,v,y,A⟩:=q
  by_cases D:i+1+d=k
  ·rw[D] at f
   exact .last u f v y A
  ·exact .step u f v y A (leads_links_aux n (i+1+d) (by omega) (by omega) λj hj G=>h j (by omega) G)
where
 leads_links_aux {listed:cG Bool}:∀(m i:cd),i<k->k-i<=m->(∀j,i<=j->j<k->sJ md ops j k=qv/\listed[j]?=qt qS)->gX md ops k listed i
  |0,i,q,u,_=>fL u (by omega)
  |m+1,i,q,u,h=>by
   obtain⟨J,K⟩:=h i (bp _) q;unfold sJ at J;simp only[ju,oc,np,nF,eK,nB] at J;obtain⟨d,R,o,f,e,v,y,A⟩:=J
   by_cases D:i+1+d=k
   ·rw[D] at f
    exact .last K f v y A
   ·exact .step K f v y A (leads_links_aux m (i+1+d) (by omega) (by omega) λj hj G=>h j (by omega) G)
def jR (md:fy)(ops:cG ij):cd->cd->cG Bool->Bool
 |0,i,listed=>cN md ops listed==[i]
 |n+1,i,listed=>(cN md ops listed).contains i&&ia md ops listed i&&sJ md ops i (i+n+1)&&listed[i]?==qt qS&&jR md ops n (i+1) (listed.setIfInBounds i qv)
theorem nK {md:fy}{ops:cG ij}:∀(n i:cd)(listed:cG Bool),jR md ops n i listed=qv->∀j,i<=j->j<i+n->sJ md ops j (i+n)=qv/\listed[j]?=qt qS
 |0,_,_,_,j,o,d=>fL d (by omega)
 |n+1,i,listed,h,j,o,d=>by
  simp only[jR,eK,nB] at h;obtain⟨⟨⟨⟨_,_⟩,q⟩,u⟩,v⟩:=h
  by_cases e:j=i
  ·subst e;exact⟨q,u⟩
  ·obtain⟨y,f⟩:=nK n (i+1) _ v j (by omega) (by omega)
   refine⟨by rw[show i+(n+1)=i+1+n from by omega];exact y, ?_⟩;rw[gO (λA=>e A.symm)] at f;exact f
def uf:cd->cd->cG Bool->cG Bool
 |0,i,listed=>listed.setIfInBounds i qv
 |n+1,i,listed=>uf n (i+1) (listed.setIfInBounds i qv)
theorem oO {u:Act->Prop}(D:ei ops=qv){fuel:cd}:∀(l:bm ij)(i:cd)(listed:cG Bool)(a:Act),i+l.length=k->(∀j,j<l.length->l[j]?=ops[i+j]?)->
  jR md ops l.length i listed=qv->(∀a w,u a->C w->wpOp P ops Q k (wpAny P md ops Q fuel (uf l.length i listed)) a w)->
  pc P ops C u l a->oM P md ops C Q k (l.length+1+fuel) listed a
 |[],i,listed,a,f,_,d,y,h=>by
  have J:i=k:=by simpa using f
  subst J;simp only[ki,jR,nB] at d;rw[show([]:bm ij).length+1+fuel=fuel+1 from by simp;omega];refine⟨λh0=>(by rw[d] at h0;cases h0),λj A=> ?_⟩;rw[d] at A;obtain rfl:=cA.1 A;rw[cI rfl];intro w K;exact y a w h K
 |o::l,i,listed,a,f,G,d,y,h=>by
  have R:=d;have h0:ops[i]?=qt o:=by have:=G 0 (by simp);simpa using this.symm
  simp only[eI,jR,eK] at d;obtain⟨⟨⟨⟨hr,hf⟩,_⟩,_⟩,rl⟩:=d;have hst:qOp P ops C i (pc P ops C u l) a:=by unfold qOp;simp only[h0];exact h
  obtain⟨v,hy,hK⟩:=yieldsIn_of_qOp h0 hst;have q:(o::l).length=l.length+1:=rfl;rw[show(o::l).length+1+fuel=(l.length+1+fuel)+1 from by rw[q];omega];refine tZ h0 (hU D) _ listed a (kf h0 hf) (by simpa using hr) ?_ hy
   (oO D l (i+1) _ _ (by rw[q] at f;omega) (λj A=>by have:=G (j+1) (by rw[q];omega);simpa[Nat.add_assoc,Nat.add_comm 1 j] using this) rl y hK)
  refine vP (o::l).length i f (by rw[q];omega) λj h1 h2=> ?_;have:=nK _ _ _ R j h1 (by omega);rw[f] at this;exact this
theorem vQ {fuel:cd}{listed:cG Bool}{a:Act}{w:World}(l:bm ij)(i:cd)(o:ei ops=qv)(q:jR md ops l.length i listed=qv)(u:(ops.toList.drop i).take l.length=l)(C:World->Prop)(hC:C w)(d:cG Bool)
  (v:uf l.length i listed=d)
  (h:pc P ops C (λf=>∀w,C w->wpOp P ops Q (i+l.length) (wpAny P md ops Q fuel d) f w) l a):wpAny P md ops Q (l.length+1+fuel) listed a w:=by
 refine oN (k:=i+l.length) _ _ _ _ hC (oO o l i listed a rfl (λj y=> ?_) q (λf w' A D=> ?_) h)
 ·have G:l[j]?=((ops.toList.drop i).take l.length)[j]? :=by rw[u]
  rw[G,py,cI y,od];simp
 ·rw[v];exact A w' D
theorem xL {listed:cG Bool}{a:Act}{w:World}(l:bm ij)(i:cd)(f:ei ops=qv)(o:Region.lexFrom md ops l.length i listed=qv)(q:ops.toList.drop i=l)(C:World->Prop)(hC:C w)
  (h:pc P ops C (λd=>∀w',C w'->Q .normal d w') l a):wpAny P md ops Q l.length listed a w:=by
 refine wpAny_of_quiet (Q:=λd=>∀w',C w'->Q .normal d w') (λ_ w' u h=>h w' u) _ _ _ _ hC (wpAnyQ_lex f l i listed a (λj=> ?_) o h);rw[<-q,od];simp
section
variable {l:bm ij}
theorem om {id:cd}{a:Act}{w:World}(n fuel:cd)(f:l.length=n+1+fuel)(o:P.follows .mixedOrders=qv)(q:ei l.toArray=qv)(u:jR .any l.toArray n 0 (kB (n+1+fuel) qS)=qv)(C:World->Prop)(hC:C w.drew)
  (h:pc P l.toArray C (λv=>∀w,C w->wpOp P l.toArray Q n (wpAny P .any l.toArray Q fuel (uf n 0 (kB (n+1+fuel) qS))) v w) (l.take n) a):(pT id l.toArray qv).wp P Q a w:=by
 refine wp_region_any o ?_;have d:(l.take n).length=n:=by rw[m8];omega
 have y:l.toArray.size=n+1+fuel:=by simpa using f
 rw[y];have:=vQ (P:=P) (ops:=l.toArray) (md:= .any) (Q:=Q) (fuel:=fuel) (listed:=kB (n+1+fuel) qS) (a:=a) (w:=w.drew) (l.take n) 0 q (by rw[d];exact u) (by rw[d];simp) C hC _ rfl (by rw[d,cH];exact h);rw[d] at this;exact this
theorem aU {listed:cG Bool}{a:Act}{w:World}{d:cd}(i:cd)(v:l.length=i+d)(o:ei l.toArray=qv)(q:Region.lexFrom md l.toArray d i listed=qv)(C:World->Prop)(hC:C w)
  (h:pc P l.toArray C (λu=>∀w',C w'->Q .normal u w') (l.drop i) a):wpAny P md l.toArray Q d listed a w:=by
 have f:(l.drop i).length=d:=by rw[List.length_drop];omega
 have:=xL (P:=P) (ops:=l.toArray) (md:=md) (Q:=Q) (listed:=listed) (a:=a) (w:=w) (l.drop i) i o (by rw[f];exact q) (by simp) C hC h;rw[f] at this;exact this
end
end
section
variable {P:i8}{ops:cG ij}{Q:Exit->Act->World->Prop}{md:fy}{S:World->Prop}{k:cd}
def bW (P:i8)(md:fy)(ops:cG ij)(Q:Exit->Act->World->Prop)(S:World->Prop)(k:cd):cd->cG Bool->Act->World->Prop
 |0,_,_,_=>jp
 |fuel+1,listed,a,w=>
  (cN md ops listed=[]->jp)/\
  ∀i∈cN md ops listed,wpOp P ops Q i (λd w'=>if i=k then wpAny P md ops Q fuel (listed.setIfInBounds i qv) d w' else S w'/\bW P md ops Q S k fuel (listed.setIfInBounds i qv) d w') a w
theorem dO:∀(fuel:cd)(listed:cG Bool)(a:Act)(w:World),bW P md ops Q S k fuel listed a w->wpAny P md ops Q fuel listed a w
 |0,_,_,_,h=>h.elim
 |fuel+1,_,_,_,h=>⟨λh0=>(h.1 h0).elim,λi f=>wpOp_mono (λo w' d=>by
   by_cases e:i=k
   ·rw[cI e] at d;exact d
   ·rw[cw e] at d;exact dO fuel _ o w' d.2) (h.2 i f)⟩
theorem ug {i:cd}{d:ij}{v:bw}(R:ops[i]?=qt d)(rl:∀(j:cd)(o:ij) u b,ops[j]?=qt o->o.op≠ .select u b)
  (hQ:∀c a w,Q (.panic c) (a.put d.dst v) w->Q (.panic c) a w):
  ∀(fuel:cd)(listed:cG Bool)(a:Act)(w:World),
   (∀j f,ops[j]?=qt f->j≠i->listed.getD j qv=qS->(∀e∈f.after,ev md e=qv->e.on≠i)->d.apart ops f=qv)->
   i∈cN md ops listed->gX md ops k listed i->YieldsIf P ops S d v a->S w->
   bW P md ops Q S k fuel (listed.setIfInBounds i qv) (a.put d.dst v) w->bW P md ops Q S k (fuel+1) listed a w:=by
 intro fuel
 induction fuel with
 |zero=>intro listed a w _ _ _ _ _ H;exact H.elim
 |succ fuel ih=>
  intro listed a w rm A D hy hS H;have rv:i≠k:=λe=>by subst e;exact D.notReady A
  refine⟨λh=>(by rw[h] at A;cases A),λj y=> ?_⟩
  by_cases q:j=i
  ·subst q;exact hy.wpOp R hS (by rw[cw rv];exact⟨hS,H⟩)
  ·have G:j≠k:=λe=>by subst e;exact D.notReady y
   have h1:=H.2 j (lp y q);simp only[cw G] at h1⊢;obtain⟨rn,f,J,rN⟩:=mem_ready.1 y;have rx:∀e∈f.after,ev md e=qv->e.on≠i:=λe he hb rB=>gT D.un J he hb rB y;have h2:=wpOp_putIf J (rm j f J q rn rx) (λu b=>rl i d u b R) (λu b=>rl j f u b J) hQ hy h1;have rI:∀k ok,ops[k]?=qt ok->k≠i->(listed.setIfInBounds j qv).getD k qv=qS->
     (∀e∈ok.after,ev md e=qv->e.on≠i)->d.apart ops ok=qv:=λk ok hk rK rr rL=>by
    refine rm k ok hk rK ?_ rL
    by_cases G:j=k
    ·subst G;exact rn
    ·rw[getD_set_ne qv G] at rr;exact rr
   refine wpOp_mono (λa' w' K=>⟨K.2.1,ih (listed.setIfInBounds j qv) a' w' rI (lp A (Ne.symm q)) (D.set y q) K.1 K.2.1 ?_⟩) h2;rw[mC _ _ q];exact K.2.2
theorem jS {i:cd}{d:ij}{v:bw}{fuel:cd}{listed:cG Bool}{a:Act}{w:World}(f:ops[i]?=qt d)
  (o:ei ops=qv)(q:ia md ops listed i=qv)(u:(cN md ops listed).contains i=qv)(y:jQ md ops k listed ops.size i=qv)
  (A:∀c a w,Q (.panic c) (a.put d.dst v) w->Q (.panic c) a w)(D:YieldsIf P ops S d v a)(G:S w)
  (h:bW P md ops Q S k fuel (listed.setIfInBounds i qv) (a.put d.dst v) w):bW P md ops Q S k (fuel+1) listed a w:=
 ug f (hU o) A fuel listed a w (kf f q) (by simpa using u) (vO _ _ y) D G h
theorem xM {i:cd}{o:ij}{fuel:cd}{listed:cG Bool}{a:Act}{w:World}(f:cN md ops listed=[i])(u:i≠k)(v:ops[i]?=qt o)
  (h:∀d:Act->World->Prop,(∀a w,S w->bW P md ops Q S k fuel (listed.setIfInBounds i qv) a w->d a w)->if dt o (im ops a.tmps)=qv then km P o a w d Q else d (a.put o.dst undef) w):
  bW P md ops Q S k (fuel+1) listed a w:=by
 refine⟨λh0=>(by rw[f] at h0;cases h0),λj q=> ?_⟩;rw[f] at q;obtain rfl:=cA.1 q;simp only[cw u];exact wpOp_step v (λd y=>h d (λa w A D=>y a w ⟨A,D⟩))
theorem Bg {o:ij}{fuel:cd}{listed:cG Bool}{a:Act}{w:World}(f:cN md ops listed=[k])(u:ops[k]?=qt o)
  (h:∀d:Act->World->Prop,(∀a w,wpAny P md ops Q fuel (listed.setIfInBounds k qv) a w->d a w)->if dt o (im ops a.tmps)=qv then km P o a w d Q else d (a.put o.dst undef) w):
  bW P md ops Q S k (fuel+1) listed a w:=by
 refine⟨λh0=>(by rw[f] at h0;cases h0),λj q=> ?_⟩;rw[f] at q;obtain rfl:=cA.1 q;simp only[oB];exact wpOp_step u (λd v=>h d v)
theorem ah {id:cd}{a:Act}{w:World}(k:cd)(S:World->Prop)(d:P.follows .mixedOrders=qv)
  (h:bW P .any ops Q S k ops.size (kB ops.size qS) a w.drew):(pT id ops qv).wp P Q a w:=
 wp_region_any d (dO _ _ _ _ h)
theorem nL {o:ij}{a:Act}(v:dt o (im ops a.tmps)=qv)(f:ge)(x:Operand)(y:o.op= .load f x)
  (q:oA)(A:a.eval x= rb (qt q))(h:cG bw)(d:TypeDesc)(D:∀w,S w->∀j u,h.toList[j]?=qt u->w.cell? (q.add j)=qt u)
  (G:P.underlying f=qt d)(J:(match d with| .struct _| .array _ _=>qv|_=>qS)=qv)(K:(P.info? f).map (·.size)=qt h.size):YieldsIf P ops S o (rh h) a:=by
 refine Or.inl ⟨v,λw R=> ?_⟩;unfold execOp;simp only[y,A,Instr.loadAt,Instr.sureAddr,fc,Sem.run_pure,lx,gW w q f h d (D w R) G J K]
theorem zT {C:World->Prop}(i:cd){d:ij}{v:bw}{fuel:cd}{listed:cG Bool}{a:Act}{w:World}(o:ops[i]?=qt d)
  (hC:∀w,S w->C w)
  (h:bW P md ops Q S k fuel (listed.setIfInBounds i qv) (a.put d.dst v) w)
  (q:∀w,C w->(execOp a.eval d).run P w= .ok (.value v) w:=by intro w f;go_simp;try rfl)
  (f:dt d (im ops a.tmps)=qv:=by rfl)
  (u:ei ops=qv:=by kernel_rfl)(y:ia md ops listed i=qv:=by kernel_rfl)(A:(cN md ops listed).contains i=qv:=by kernel_rfl)(D:jQ md ops k listed ops.size i=qv:=by kernel_rfl)
  (G:∀c a w,Q (.panic c) (a.put d.dst v) w->Q (.panic c) a w:=by exact λ_ _ _ h=>h)(J:S w:=by assumption):bW P md ops Q S k (fuel+1) listed a w:=
 jS o u y A D G (.inl ⟨f,λw h=>q w (hC w h)⟩) J h
theorem zN (i:cd){d:ij}{fuel:cd}{listed:cG Bool}{a:Act}{w:World}(f:ops[i]?=qt d)
  (h:bW P md ops Q S k fuel (listed.setIfInBounds i qv) (a.put d.dst undef) w)
  (o:dt d (im ops a.tmps)=qS:=by rfl)
  (q:ei ops=qv:=by kernel_rfl)(u:ia md ops listed i=qv:=by kernel_rfl)(v:(cN md ops listed).contains i=qv:=by kernel_rfl)(y:jQ md ops k listed ops.size i=qv:=by kernel_rfl)
  (A:∀c a w,Q (.panic c) (a.put d.dst undef) w->Q (.panic c) a w:=by exact λ_ _ _ h=>h)(D:S w:=by assumption):bW P md ops Q S k (fuel+1) listed a w:=
 jS f q u v y A (.inr ⟨o,rfl⟩) D h
theorem zO (i:cd){o:ij}{fuel:cd}{listed:cG Bool}{a:Act}{w:World}(f:ops[i]?=qt o)
  (h:∀d:Act->World->Prop,(∀a w,S w->bW P md ops Q S k fuel (listed.setIfInBounds i qv) a w->d a w)->km P o a w d Q)
  (q:dt o (im ops a.tmps)=qv:=by rfl)(u:cN md ops listed=[i]:=by kernel_rfl)(v:i≠k:=by decide):
  bW P md ops Q S k (fuel+1) listed a w:=xM u v f λd y=>by rw[cI q];exact h d y
theorem zK {o:ij}{fuel:cd}{listed:cG Bool}{a:Act}{w:World}(f:ops[k]?=qt o)
  (h:∀d:Act->World->Prop,(∀a w,wpAny P md ops Q fuel (listed.setIfInBounds k qv) a w->d a w)->km P o a w d Q)
  (q:dt o (im ops a.tmps)=qv:=by rfl)(u:cN md ops listed=[k]:=by kernel_rfl):
  bW P md ops Q S k (fuel+1) listed a w:=Bg u f λd v=>by rw[cI q];exact h d v
theorem zL (i:cd){f:ij}{fuel:cd}{listed:cG Bool}{a:Act}{w:World}(y:ops[i]?=qt f)(q:ge){x:Operand}(v:oA){o:cG bw}{d:TypeDesc}
  (A:∀w,S w->∀j u,o.toList[j]?=qt u->w.cell? (v.add j)=qt u)(D:P.underlying q=qt d)
  (h:bW P md ops Q S k fuel (listed.setIfInBounds i qv) (a.put f.dst (rh o)) w)
  (G:f.op= .load q x:=by rfl)(J:a.eval x= rb (qt v):=by rfl)
  (K:(match d with| .struct _| .array _ _=>qv|_=>qS)=qv:=by rfl)(R:(P.info? q).map (·.size)=qt o.size:=by kernel_rfl)
  (hw:dt f (im ops a.tmps)=qv:=by rfl)
  (hs:ei ops=qv:=by kernel_rfl)(hf:ia md ops listed i=qv:=by kernel_rfl)(hr:(cN md ops listed).contains i=qv:=by kernel_rfl)(hl:jQ md ops k listed ops.size i=qv:=by kernel_rfl)
  (hQ:∀c a w,Q (.panic c) (a.put f.dst (rh o)) w->Q (.panic c) a w:=by exact λ_ _ _ h=>h)(hS:S w:=by assumption):bW P md ops Q S k (fuel+1) listed a w:=
 jS y hs hf hr hl hQ (nL hw q x G v J o d A D K R) hS h
end
theorem aI {P:i8}{fn:Func}{p u:Tmp}{d:ge}(h:fn.results=#[.cell p d,.tmp u])(tmps:cG bw)(w:World)(g:cd)(t:ge)(f:cG bw)(o:cd×cd)(q:cG Field)
  (v:tmps.getD p undef= rb (qt ⟨g,0,qu⟩))(y:w.heap[g]?=qt (rj f t o))
  (A:P.underlying d=qt (.struct q))(D:(P.info? d).map (·.size)=qt f.size):
  (pN fn tmps).run P w= .ok (.tuple #[rh f,tmps.getD u undef]) w:=by
 rw[results_cell_tmp h,v];have e:=mp w g t d f o _ y A rfl D;simp only[asAddr,Sem.run_pure,lx,e]
theorem gp {P:i8}{fn:Func}{p u:Tmp}{d:ge}(h:fn.results=#[.tmp u,.cell p d])(tmps:cG bw)(w:World)(g:cd)(t:ge)(f:cG bw)(o:cd×cd)(v:cG Field)
  (q:tmps.getD p undef= rb (qt ⟨g,0,qu⟩))(y:w.heap[g]?=qt (rj f t o))
  (A:P.underlying d=qt (.struct v))(D:(P.info? d).map (·.size)=qt f.size):
  (pN fn tmps).run P w= .ok (.tuple #[tmps.getD u undef,rh f]) w:=by
 have e:=mp w g t d f o _ y A rfl D;simp only[pN,h];simp only[pP] at q;simp[fc,eV,q,asAddr,e]
theorem bV {P:i8}{fn:Func}{p u:Tmp}{d f:ge}(h:fn.results=#[.cell p d,.cell u f])(tmps:cG bw)(w:World)(g v:cd)(t t2:ge)(o q:cG bw)(y A:cd×cd)(J K:cG Field)
  (D:tmps.getD p undef= rb (qt ⟨g,0,qu⟩))(R:w.heap[g]?=qt (rj o t y))(G:tmps.getD u undef= rb (qt ⟨v,0,qu⟩))(rl:w.heap[v]?=qt (rj q t2 A))
  (hu:P.underlying d=qt (.struct J))(hi:(P.info? d).map (·.size)=qt o.size)(rm:P.underlying f=qt (.struct K))(rn:(P.info? f).map (·.size)=qt q.size):
  (pN fn tmps).run P w= .ok (.tuple #[rh o,rh q]) w:=by
 have e:=mp w g t d o y _ R hu rfl hi;have e2:=mp w v t2 f q A _ rl rm rfl rn;simp only[pN,h];simp only[pP] at D G;simp[fc,eV,D,G,asAddr,e,e2]
theorem nM {N:cd}{w W:World}(h:aq N w W)(n:cd):aq N w (W.drewN n):=⟨h.os,h.tape,h.output,h.size,h.block⟩
theorem bf {W:World}{b:cd}{x y u v:bw}{t:ge}(h:W.heap[b]?=qt (rj #[x,y] t (0,0))):((W.setCell ⟨b,0,qu⟩ u).setCell ⟨b,1,qu⟩ v).heap[b]?=qt (rj #[u,v] t (0,0)):=by
 have d:=aE W b 0 _ _ u h;have f:=aE _ b 1 _ _ v d;simpa using f
theorem gY {W:World}{g:cd}{a b c d u0 u1 u2 u3:bw}{t:ge}(h:W.heap[g]?=qt (rj #[a,b,c,d] t (0,0))):
  ((((W.setCell ⟨g,0,qu⟩ u0).setCell ⟨g,1,qu⟩ u1).setCell ⟨g,2,qu⟩ u2).setCell ⟨g,3,qu⟩ u3).heap[g]?=qt (rj #[u0,u1,u2,u3] t (0,0)):=by
 have f:=aE W g 0 _ _ u0 h;have o:=aE _ g 1 _ _ u1 f;have q:=aE _ g 2 _ _ u2 o;have u:=aE _ g 3 _ _ u3 q;exact u
theorem oP {N B:cd}{w W:World}(h:aq N w W)(d:N<=B)(u0 u1 u2 u3:bw):aq N w ((((W.setCell ⟨B,0,qu⟩ u0).setCell ⟨B,1,qu⟩ u1).setCell ⟨B,2,qu⟩ u2).setCell ⟨B,3,qu⟩ u3):=
 (((h.setCell d _).setCell d _).setCell d _).setCell d _
theorem gZ {W:World}{g:cd}{a b c d e u0 u1 u2 u3 u4:bw}{t:ge}(h:W.heap[g]?=qt (rj #[a,b,c,d,e] t (0,0))):
  (((((W.setCell ⟨g,0,qu⟩ u0).setCell ⟨g,1,qu⟩ u1).setCell ⟨g,2,qu⟩ u2).setCell ⟨g,3,qu⟩ u3).setCell ⟨g,4,qu⟩ u4).heap[g]?=qt (rj #[u0,u1,u2,u3,u4] t (0,0)):=by
 have f:=aE W g 0 _ _ u0 h;have o:=aE _ g 1 _ _ u1 f;have q:=aE _ g 2 _ _ u2 o;have u:=aE _ g 3 _ _ u3 q;have v:=aE _ g 4 _ _ u4 u;exact v
theorem eG {N B:cd}{w W:World}(h:aq N w W)(d:N<=B)(u0 u1 u2 u3 u4:bw):aq N w (((((W.setCell ⟨B,0,qu⟩ u0).setCell ⟨B,1,qu⟩ u1).setCell ⟨B,2,qu⟩ u2).setCell ⟨B,3,qu⟩ u3).setCell ⟨B,4,qu⟩ u4):=
 ((((h.setCell d _).setCell d _).setCell d _).setCell d _).setCell d _
theorem rowAt {W:World}{g:cd}{d:cG bw}{t:ge}(h:W.heap[g]?=qt (rj d t (0,0)))(k:cd){u:bw}(f:d[k]?=qt u):W.cell? ⟨g,k,qu⟩=qt u/\W.frozen? ⟨g,k,qu⟩=qS:=
 ⟨by rw[bh _ _ _ _ _ _ h];exact f,dg _ _ _ _ _ h⟩
theorem aa {W:World}{g:cd}{o:Obj}(h:W.heap[g]?=qt o):g<W.heap.size:=(bb.1 h).1
theorem d9 {W:World}{g:cd}{a b c d e:bw}{t:ge}(h:W.heap[g]?=qt (rj #[a,b,c,d,e] t (0,0))):
  (W.cell? ⟨g,0,qu⟩=qt a/\W.cell? ⟨g,1,qu⟩=qt b/\W.cell? ⟨g,2,qu⟩=qt c/\W.cell? ⟨g,3,qu⟩=qt d/\W.cell? ⟨g,4,qu⟩=qt e)/\
  (W.frozen? ⟨g,0,qu⟩=qS/\W.frozen? ⟨g,1,qu⟩=qS/\W.frozen? ⟨g,2,qu⟩=qS/\W.frozen? ⟨g,3,qu⟩=qS/\W.frozen? ⟨g,4,qu⟩=qS)/\g<W.heap.size:=by
 refine⟨⟨?_, ?_, ?_, ?_, ?_⟩,⟨?_, ?_, ?_, ?_, ?_⟩,(bb.1 h).1⟩
 all_goals first|exact dg _ _ _ _ _ h|(rw[bh _ _ _ _ _ _ h];rfl)
theorem kK {W:World}{g:cd}{a b c d:bw}{t:ge}(h:W.heap[g]?=qt (rj #[a,b,c,d] t (0,0))):
  (W.cell? ⟨g,0,qu⟩=qt a/\W.cell? ⟨g,1,qu⟩=qt b/\W.cell? ⟨g,2,qu⟩=qt c/\W.cell? ⟨g,3,qu⟩=qt d)/\
  (W.frozen? ⟨g,0,qu⟩=qS/\W.frozen? ⟨g,1,qu⟩=qS/\W.frozen? ⟨g,2,qu⟩=qS/\W.frozen? ⟨g,3,qu⟩=qS)/\g<W.heap.size:=by
 refine⟨⟨?_, ?_, ?_, ?_⟩,⟨?_, ?_, ?_, ?_⟩,(bb.1 h).1⟩
 all_goals first|exact dg _ _ _ _ _ h|(rw[bh _ _ _ _ _ _ h];rfl)
theorem bL {W:World}{g:cd}{a b:bw}{t:ge}(h:W.heap[g]?=qt (rj #[a,b] t (0,0))):
  (W.cell? ⟨g,0,qu⟩=qt a/\W.cell? ⟨g,1,qu⟩=qt b)/\(W.frozen? ⟨g,0,qu⟩=qS/\W.frozen? ⟨g,1,qu⟩=qS)/\g<W.heap.size:=by
 refine⟨⟨?_, ?_⟩,⟨?_, ?_⟩,(bb.1 h).1⟩
 all_goals first|exact dg _ _ _ _ _ h|(rw[bh _ _ _ _ _ _ h];rfl)
theorem Ea {w:World}{b:cd}{d:ge}{x y:bw}(h:w.heap[b]?=qt (rj #[x,y] d (0,0))):w.cell? ⟨b,0,qu⟩=qt x/\w.cell? ⟨b,1,qu⟩=qt y:=⟨(rowAt h 0 rfl).1,(rowAt h 1 rfl).1⟩
theorem DI {w:World}{b:cd}{ty:ge}{d f o q u v y A D G J K R:bw}(h:w.heap[b]?=qt (rj #[d,f,o,q,u,v,y,A,D,G,J,K,R] ty (0,0))):w.cell? ⟨b,0,qu⟩=qt d/\w.cell? ⟨b,1,qu⟩=qt f/\w.cell? ⟨b,2,qu⟩=qt o/\w.cell? ⟨b,3,qu⟩=qt q/\w.cell? ⟨b,4,qu⟩=qt u/\w.cell? ⟨b,5,qu⟩=qt v/\w.cell? ⟨b,6,qu⟩=qt y/\w.cell? ⟨b,7,qu⟩=qt A/\w.cell? ⟨b,8,qu⟩=qt D/\w.cell? ⟨b,9,qu⟩=qt G/\w.cell? ⟨b,10,qu⟩=qt J/\w.cell? ⟨b,11,qu⟩=qt K/\w.cell? ⟨b,12,qu⟩=qt R:=⟨(rowAt h 0 rfl).1,(rowAt h 1 rfl).1,(rowAt h 2 rfl).1,(rowAt h 3 rfl).1,(rowAt h 4 rfl).1,(rowAt h 5 rfl).1,(rowAt h 6 rfl).1,(rowAt h 7 rfl).1,(rowAt h 8 rfl).1,(rowAt h 9 rfl).1,(rowAt h 10 rfl).1,(rowAt h 11 rfl).1,(rowAt h 12 rfl).1⟩
theorem af {g k:cd}{w w':World}(h:Ext (·=g) w w')(u:bw):Ext (·=g) w (w'.setCell ⟨g,k,qu⟩ u):=h.setCell (a:=⟨g,k,qu⟩) (.inl rfl) u
theorem fq {W:World}{g:cd}{v u q o h f d u0 u1 u2 u3 u4 u5 u6:bw}{t:ge}(y:W.heap[g]?=qt (rj #[v,u,q,o,h,f,d] t (0,0))):
  (((((((W.setCell ⟨g,0,qu⟩ u0).setCell ⟨g,1,qu⟩ u1).setCell ⟨g,2,qu⟩ u2).setCell ⟨g,3,qu⟩ u3).setCell ⟨g,4,qu⟩ u4).setCell ⟨g,5,qu⟩ u5).setCell ⟨g,6,qu⟩ u6).heap[g]?=qt (rj #[u0,u1,u2,u3,u4,u5,u6] t (0,0)):=by
 have h0:(W.setCell ⟨g,0,qu⟩ u0).heap[g]?=qt (rj #[u0,u,q,o,h,f,d] t (0,0)):=aE _ g 0 _ _ u0 y;have A:((W.setCell ⟨g,0,qu⟩ u0).setCell ⟨g,1,qu⟩ u1).heap[g]?=qt (rj #[u0,u1,q,o,h,f,d] t (0,0)):=aE _ g 1 _ _ u1 h0;have D:(((W.setCell ⟨g,0,qu⟩ u0).setCell ⟨g,1,qu⟩ u1).setCell ⟨g,2,qu⟩ u2).heap[g]?=qt (rj #[u0,u1,u2,o,h,f,d] t (0,0)):=aE _ g 2 _ _ u2 A;have G:((((W.setCell ⟨g,0,qu⟩ u0).setCell ⟨g,1,qu⟩ u1).setCell ⟨g,2,qu⟩ u2).setCell ⟨g,3,qu⟩ u3).heap[g]?=qt (rj #[u0,u1,u2,u3,h,f,d] t (0,0)):=aE _ g 3 _ _ u3 D;have J:(((((W.setCell ⟨g,0,qu⟩ u0).setCell ⟨g,1,qu⟩ u1).setCell ⟨g,2,qu⟩ u2).setCell ⟨g,3,qu⟩ u3).setCell ⟨g,4,qu⟩ u4).heap[g]?=qt (rj #[u0,u1,u2,u3,u4,f,d] t (0,0)):=aE _ g 4 _ _ u4 G;have K:((((((W.setCell ⟨g,0,qu⟩ u0).setCell ⟨g,1,qu⟩ u1).setCell ⟨g,2,qu⟩ u2).setCell ⟨g,3,qu⟩ u3).setCell ⟨g,4,qu⟩ u4).setCell ⟨g,5,qu⟩ u5).heap[g]?=qt (rj #[u0,u1,u2,u3,u4,u5,d] t (0,0)):=aE _ g 5 _ _ u5 J;have R:(((((((W.setCell ⟨g,0,qu⟩ u0).setCell ⟨g,1,qu⟩ u1).setCell ⟨g,2,qu⟩ u2).setCell ⟨g,3,qu⟩ u3).setCell ⟨g,4,qu⟩ u4).setCell ⟨g,5,qu⟩ u5).setCell ⟨g,6,qu⟩ u6).heap[g]?=qt (rj #[u0,u1,u2,u3,u4,u5,u6] t (0,0)):=aE _ g 6 _ _ u6 K;exact R
theorem bM (W:World)(g:cd)(u0 u1 u2 u3 u4 u5 u6:bw):Ext (·=g) W (((((((W.setCell ⟨g,0,qu⟩ u0).setCell ⟨g,1,qu⟩ u1).setCell ⟨g,2,qu⟩ u2).setCell ⟨g,3,qu⟩ u3).setCell ⟨g,4,qu⟩ u4).setCell ⟨g,5,qu⟩ u5).setCell ⟨g,6,qu⟩ u6):=by
 refine af ?_ _;refine af ?_ _;refine af ?_ _;refine af ?_ _;refine af ?_ _;refine af ?_ _;refine af ?_ _;exact Ext.refl _ _
theorem dC {W:World}{g:cd}{f h o q u v y:bw}{t:ge}(d:W.heap[g]?=qt (rj #[f,h,o,q,u,v,y] t (0,0))):
  (W.cell? ⟨g,0,qu⟩=qt f/\W.cell? ⟨g,1,qu⟩=qt h/\W.cell? ⟨g,2,qu⟩=qt o/\W.cell? ⟨g,3,qu⟩=qt q/\W.cell? ⟨g,4,qu⟩=qt u/\W.cell? ⟨g,5,qu⟩=qt v/\W.cell? ⟨g,6,qu⟩=qt y)/\(W.frozen? ⟨g,0,qu⟩=qS/\W.frozen? ⟨g,1,qu⟩=qS/\W.frozen? ⟨g,2,qu⟩=qS/\W.frozen? ⟨g,3,qu⟩=qS/\W.frozen? ⟨g,4,qu⟩=qS/\W.frozen? ⟨g,5,qu⟩=qS/\W.frozen? ⟨g,6,qu⟩=qS)/\g<W.heap.size:=
 ⟨⟨(rowAt d 0 rfl).1,(rowAt d 1 rfl).1,(rowAt d 2 rfl).1,(rowAt d 3 rfl).1,(rowAt d 4 rfl).1,(rowAt d 5 rfl).1,(rowAt d 6 rfl).1⟩,⟨(rowAt d 0 rfl).2,(rowAt d 1 rfl).2,(rowAt d 2 rfl).2,(rowAt d 3 rfl).2,(rowAt d 4 rfl).2,(rowAt d 5 rfl).2,(rowAt d 6 rfl).2⟩,aa d⟩
theorem jT {W:World}{g:cd}{A y v u q o h f d u0 u1 u2 u3 u4 u5 u6 u7 u8:bw}{t:ge}(D:W.heap[g]?=qt (rj #[A,y,v,u,q,o,h,f,d] t (0,0))):
  (((((((((W.setCell ⟨g,0,qu⟩ u0).setCell ⟨g,1,qu⟩ u1).setCell ⟨g,2,qu⟩ u2).setCell ⟨g,3,qu⟩ u3).setCell ⟨g,4,qu⟩ u4).setCell ⟨g,5,qu⟩ u5).setCell ⟨g,6,qu⟩ u6).setCell ⟨g,7,qu⟩ u7).setCell ⟨g,8,qu⟩ u8).heap[g]?=qt (rj #[u0,u1,u2,u3,u4,u5,u6,u7,u8] t (0,0)):=by
 have h0:(W.setCell ⟨g,0,qu⟩ u0).heap[g]?=qt (rj #[u0,y,v,u,q,o,h,f,d] t (0,0)):=aE _ g 0 _ _ u0 D;have G:((W.setCell ⟨g,0,qu⟩ u0).setCell ⟨g,1,qu⟩ u1).heap[g]?=qt (rj #[u0,u1,v,u,q,o,h,f,d] t (0,0)):=aE _ g 1 _ _ u1 h0;have J:(((W.setCell ⟨g,0,qu⟩ u0).setCell ⟨g,1,qu⟩ u1).setCell ⟨g,2,qu⟩ u2).heap[g]?=qt (rj #[u0,u1,u2,u,q,o,h,f,d] t (0,0)):=aE _ g 2 _ _ u2 G;have K:((((W.setCell ⟨g,0,qu⟩ u0).setCell ⟨g,1,qu⟩ u1).setCell ⟨g,2,qu⟩ u2).setCell ⟨g,3,qu⟩ u3).heap[g]?=qt (rj #[u0,u1,u2,u3,q,o,h,f,d] t (0,0)):=aE _ g 3 _ _ u3 J;have R:(((((W.setCell ⟨g,0,qu⟩ u0).setCell ⟨g,1,qu⟩ u1).setCell ⟨g,2,qu⟩ u2).setCell ⟨g,3,qu⟩ u3).setCell ⟨g,4,qu⟩ u4).heap[g]?=qt (rj #[u0,u1,u2,u3,u4,o,h,f,d] t (0,0)):=aE _ g 4 _ _ u4 K;have h5:((((((W.setCell ⟨g,0,qu⟩ u0).setCell ⟨g,1,qu⟩ u1).setCell ⟨g,2,qu⟩ u2).setCell ⟨g,3,qu⟩ u3).setCell ⟨g,4,qu⟩ u4).setCell ⟨g,5,qu⟩ u5).heap[g]?=qt (rj #[u0,u1,u2,u3,u4,u5,h,f,d] t (0,0)):=aE _ g 5 _ _ u5 R;have h6:(((((((W.setCell ⟨g,0,qu⟩ u0).setCell ⟨g,1,qu⟩ u1).setCell ⟨g,2,qu⟩ u2).setCell ⟨g,3,qu⟩ u3).setCell ⟨g,4,qu⟩ u4).setCell ⟨g,5,qu⟩ u5).setCell ⟨g,6,qu⟩ u6).heap[g]?=qt (rj #[u0,u1,u2,u3,u4,u5,u6,f,d] t (0,0)):=aE _ g 6 _ _ u6 h5;have h7:((((((((W.setCell ⟨g,0,qu⟩ u0).setCell ⟨g,1,qu⟩ u1).setCell ⟨g,2,qu⟩ u2).setCell ⟨g,3,qu⟩ u3).setCell ⟨g,4,qu⟩ u4).setCell ⟨g,5,qu⟩ u5).setCell ⟨g,6,qu⟩ u6).setCell ⟨g,7,qu⟩ u7).heap[g]?=qt (rj #[u0,u1,u2,u3,u4,u5,u6,u7,d] t (0,0)):=aE _ g 7 _ _ u7 h6;have h8:(((((((((W.setCell ⟨g,0,qu⟩ u0).setCell ⟨g,1,qu⟩ u1).setCell ⟨g,2,qu⟩ u2).setCell ⟨g,3,qu⟩ u3).setCell ⟨g,4,qu⟩ u4).setCell ⟨g,5,qu⟩ u5).setCell ⟨g,6,qu⟩ u6).setCell ⟨g,7,qu⟩ u7).setCell ⟨g,8,qu⟩ u8).heap[g]?=qt (rj #[u0,u1,u2,u3,u4,u5,u6,u7,u8] t (0,0)):=aE _ g 8 _ _ u8 h7;exact h8
theorem jU (W:World)(g:cd)(u0 u1 u2 u3 u4 u5 u6 u7 u8:bw):Ext (·=g) W (((((((((W.setCell ⟨g,0,qu⟩ u0).setCell ⟨g,1,qu⟩ u1).setCell ⟨g,2,qu⟩ u2).setCell ⟨g,3,qu⟩ u3).setCell ⟨g,4,qu⟩ u4).setCell ⟨g,5,qu⟩ u5).setCell ⟨g,6,qu⟩ u6).setCell ⟨g,7,qu⟩ u7).setCell ⟨g,8,qu⟩ u8):=by
 refine af ?_ _;refine af ?_ _;refine af ?_ _;refine af ?_ _;refine af ?_ _;refine af ?_ _;refine af ?_ _;refine af ?_ _;refine af ?_ _;exact Ext.refl _ _
theorem eH {W:World}{g:cd}{f h o q u v y A D:bw}{t:ge}(d:W.heap[g]?=qt (rj #[f,h,o,q,u,v,y,A,D] t (0,0))):
  (W.cell? ⟨g,0,qu⟩=qt f/\W.cell? ⟨g,1,qu⟩=qt h/\W.cell? ⟨g,2,qu⟩=qt o/\W.cell? ⟨g,3,qu⟩=qt q/\W.cell? ⟨g,4,qu⟩=qt u/\W.cell? ⟨g,5,qu⟩=qt v/\W.cell? ⟨g,6,qu⟩=qt y/\W.cell? ⟨g,7,qu⟩=qt A/\W.cell? ⟨g,8,qu⟩=qt D)/\(W.frozen? ⟨g,0,qu⟩=qS/\W.frozen? ⟨g,1,qu⟩=qS/\W.frozen? ⟨g,2,qu⟩=qS/\W.frozen? ⟨g,3,qu⟩=qS/\W.frozen? ⟨g,4,qu⟩=qS/\W.frozen? ⟨g,5,qu⟩=qS/\W.frozen? ⟨g,6,qu⟩=qS/\W.frozen? ⟨g,7,qu⟩=qS/\W.frozen? ⟨g,8,qu⟩=qS)/\g<W.heap.size:=
 ⟨⟨(rowAt d 0 rfl).1,(rowAt d 1 rfl).1,(rowAt d 2 rfl).1,(rowAt d 3 rfl).1,(rowAt d 4 rfl).1,(rowAt d 5 rfl).1,(rowAt d 6 rfl).1,(rowAt d 7 rfl).1,(rowAt d 8 rfl).1⟩,⟨(rowAt d 0 rfl).2,(rowAt d 1 rfl).2,(rowAt d 2 rfl).2,(rowAt d 3 rfl).2,(rowAt d 4 rfl).2,(rowAt d 5 rfl).2,(rowAt d 6 rfl).2,(rowAt d 7 rfl).2,(rowAt d 8 rfl).2⟩,aa d⟩
section
variable {P:i8}{ops:cG ij}{Q:Exit->Act->World->Prop}{md:fy}{S:World->Prop}{k:cd}
theorem nN {i j:cd}{f h:ij}{fuel:cd}{listed:cG Bool}{a:Act}{w:World}(y:cN md ops listed=[i,j])(A:i≠k)(D:j≠k)(G:ops[i]?=qt f)(J:ops[j]?=qt h)
  (K:∀d:Act->World->Prop,(∀a w,S w->bW P md ops Q S k fuel (listed.setIfInBounds i qv) a w->d a w)->if dt f (im ops a.tmps)=qv then km P f a w d Q else d (a.put f.dst undef) w)
  (R:∀d:Act->World->Prop,(∀a w,S w->bW P md ops Q S k fuel (listed.setIfInBounds j qv) a w->d a w)->if dt h (im ops a.tmps)=qv then km P h a w d Q else d (a.put h.dst undef) w):
  bW P md ops Q S k (fuel+1) listed a w:=by
 refine⟨λh0=>(by rw[y] at h0;cases h0),λz o=> ?_⟩;rw[y] at o;rcases fW.1 o with rfl|o
 ·simp only[cw A]
  exact wpOp_step G (λd q=>K d (λa w u v=>q a w ⟨u,v⟩))
 ·obtain rfl:=cA.1 o
  simp only[cw D];exact wpOp_step J (λd q=>R d (λa w u v=>q a w ⟨u,v⟩))
end
structure BW (W:World) where
 w:World
 h:aq W.heap.size W w
instance {W:World}:Inhabited (BW W):=⟨⟨W,an _ _⟩⟩
theorem lq {P:i8}{id:cd}{Q:Exit->Act->World->Prop}{a:Act}{W:World}{l:bm ij}(d:P.follows .mixedOrders=qv)(f:Region.lexB .any l.toArray=qv)
  (h:pc P l.toArray (λw'=>∃p:BW W,w'=p.w) (λo=>∀w',(∃p:BW W,w'=p.w)->Q .normal o w') l a):(pT id l.toArray qv).wp P Q a W:=
 wp_region_quiet (C:=λw'=>∃p:BW W,w'=p.w) d f ⟨⟨W.drew,(an _ _).drew⟩,rfl⟩ (by simpa using h)
theorem zQ {P:i8}{id:cd}{Q:Exit->Act->World->Prop}{a:Act}{W:World}{l:bm ij}
  (h:pc P l.toArray (λw'=>∃p:BW W,w'=p.w) (λd=>∀w',(∃p:BW W,w'=p.w)->Q .normal d w') l a)
  (f:P.follows .mixedOrders=qv:=by kernel_rfl)(o:Region.lexB .any l.toArray=qv:=by kernel_rfl):(pT id l.toArray qv).wp P Q a W:=
 lq f o h
theorem aV {P:i8}{f:FuncId}{args:cG bw}{W:World}{p:BW W}{v:bw}(h:ft P f args p.w λe w'=>e= rk v/\aq p.w.heap.size p.w w'):
  ft P f args p.w λe w''=>e= rk v/\∃q:BW W,w''=q.w:=
 h.mono λ_ w' ⟨d,hb⟩=>⟨d,⟨w',p.h.trans (hb.mono p.h.size)⟩,rfl⟩
theorem iL {P:i8}{f:FuncId}{args:cG bw}{W:World}{p:BW W}{v:bw}(h:ft P f args p.w λe w'=>e= rk v/\p.w=w'):
  ft P f args p.w λe w''=>e= rk v/\∃q:BW W,w''=q.w:=
 h.mono λ_ _ ⟨d,hb⟩=>⟨d,p,hb.symm⟩
theorem run_append_nil {P:i8}(w:World)(base:cd)(t h e:ge)(i:TypeInfo)(size:cd)(d:P.underlying t=qt (.slice e))(f:P.info? e=qt i)
  (v:bw)(n:cd)(xs:bm bw)(o:w.ownsRow base e size v n xs)(c:cd):(gA #[t,t] h #[v,ra qu 0 c]).run P w= .ok v w:=by
 rcases o.2 with⟨rfl,rfl⟩|⟨g,cap,cur,rfl,_,_,q,_⟩
 ·simp[gA,eJ d,sizeOf,typeInfo,f,nb,lj]
 ·simp[gA,eJ d,sizeOf,typeInfo,f,nb,lj,q,cU]
theorem iM {P:i8}{w:World}{ops:cG ij}{rest:bm ij}{o:ij}{a:Act}{Q:Exit->Act->World->Prop}(rl:o.guard=qu)(s x:Operand)(t:ge)
  (ho:o.op= .call {callee:= .builtin .append,args:=#[s,x],argTypes:=#[t,t]})(base:cd)(e:ge)(i:TypeInfo)(z:bw)(size oE:cd)(ht:P.underlying t=qt (.slice e))(hi:P.info? e=qt i)(hz:i.zero=qt z)
  (rm:i.size=size)(rn:i.bytes=oE)(rr:z.cells.size=size)(rv:0<size)
  (v:bw)(n:cd)(xs:bm bw)(hs:a.eval s=v)(G:w.ownsRow base e size v n xs)
  (q:du oA)(m c:cd)(f:bm bw)(hx:a.eval x= ra q m c)(hl:f.length=m*size)(rx:q=qu->m=0)(rB:∀y,q=qt y->∀j u,f[j]?=qt u->w.cell? (y.add j)=qt u)(h1:∀u∈f,u.oneCell'=qv)
  (rI:n+m<=dl)(rK:(n+m)*oE<=140737488355328)(rL:base<=w.heap.size)
  (h:∀d w',w'.ownsRow base e size d (n+m) (xs++f)->w.grownBy w' v.ownBlock->(∀k,d.ownBlock=qt k->v.ownBlock=qt k\/w.heap.size<=k)->wpList P ops Q rest (a.put o.dst d) w'):wpList P ops Q (o::rest) a w:=by
 refine wpList_plain rl λK hK=> ?_;have rN:∃d w',(gA #[t,t] o.type #[v,ra q m c]).run P w= .ok d w'/\w'.ownsRow base e size d (n+m) (xs++f)/\w.grownBy w' v.ownBlock/\(∀k,d.ownBlock=qt k->v.ownBlock=qt k\/w.heap.size<=k):=by
  cases q with
  |none=>
   obtain rfl:=rx rfl;have hn:f=[]:=cY (by omega);subst hn;exact⟨v,w,run_append_nil w base t o.type e i size ht hi v n xs G c,by simpa using G,World.grownBy.refl w _,λk A=> .inl A⟩
  |some y=>
   obtain⟨d,w',J,R,r3,_,D⟩:=run_append_own_at w base t o.type e i z size oE ht hi hz rm rn rr rv v n xs G y m c f hl (rB y rfl) h1 rI rK rL;refine⟨d,w',J,R,r3,λk A=> ?_⟩;rcases D with D|D
   ·exact .inl (by rw[<-D];exact A)
   ·right;rw[D] at A;simp at A;omega
 obtain⟨d,w',J,R,r3,r4⟩:=rN;unfold km;simp[execOp,ho,resolve,invoke,builtin,hs,hx,J,eV];exact hK _ _ (h _ _ R r3 r4)
theorem iV (w:World)(e:ge)(size base:cd)(d:base<=w.heap.size):(w.alloc (rj #[] e)).ownsRow base e size (ra (qt ⟨w.heap.size,0,qu⟩) 0 0) 0 []:=
 World.ownsRow_made w #[] 0 d (by unfold dl;omega) (by simp)
theorem ai {w:World}{base:cd}{e:ge}{size n:cd}{v:bw}{xs:bm bw}(h:w.ownsRow base e size v n xs){k:cd}(d:v.ownBlock=qt k):base<=k/\k<w.heap.size:=h.lt k d
theorem ae {w w':World}{base:cd}{e:ge}{size n:cd}{v:bw}{xs:bm bw}{M:cd->Prop}(h:w.ownsRow base e size v n xs)(f:Ext M w w')(o:∀k,v.ownBlock=qt k->¬M k):w'.ownsRow base e size v n xs:=by
 refine⟨h.1, ?_⟩;rcases h.2 with q|⟨g,cap,cur,d,u,y,A⟩
 ·exact .inl q
 ·refine .inr ⟨g,cap,cur,d,u,f.heap y (o g (by rw[d];rfl)),A⟩
theorem av {w:World}{base m f:cd}{e:ge}{v:bw}{xs:bm bw}(h:w.ownsRow base e f v m xs):∃o cap,v= ra o m cap:=by
 rcases h.2 with⟨d,q⟩|⟨g,cap,cur,d,_⟩
 ·exact⟨qu,0,by rw[q];exact d⟩
 ·exact⟨_,_,d⟩
theorem gq {P:i8}{W:World}{ops:cG ij}{rest:bm ij}{o:ij}{a:Act}{Q:Exit->Act->World->Prop}(A:o.guard=qu)(s x:Operand)(t:ge)
  (D:o.op= .call {callee:= .builtin .append,args:=#[s,x],argTypes:=#[t,t]})(base:cd)(e:ge)(i:TypeInfo)(z:bw)(size oE:cd)(G:P.underlying t=qt (.slice e))(J:P.info? e=qt i)(K:i.zero=qt z)
  (R:i.size=size)(rl:i.bytes=oE)(rm:z.cells.size=size)(rn:0<size)
  (v:bw)(n:cd)(xs:bm bw)(hs:a.eval s=v)(rr:W.ownsRow base e size v n xs)
  (B:cd)(d:cG bw)(hB:B=W.heap.size)(hx:a.eval x= ra (qt ⟨B,0,qu⟩) 1 1)(rv:d.size=size)(h1:∀u∈d.toList,u.oneCell'=qv)
  (rx:n+1<=dl)(rB:(n+1)*oE<=140737488355328)(rK:base<=W.heap.size)
  (h:∀f w',w'.ownsRow base e size f (n+1) (xs++d.toList)->Ext (λk=>v.ownBlock=qt k) W w'->(∀k,f.ownBlock=qt k->v.ownBlock=qt k\/W.heap.size<=k)->wpList P ops Q rest (a.put o.dst f) w'):
  wpList P ops Q (o::rest) a (W.alloc (rj d e)):=by
 subst hB;refine iM A s x t D base e i z size oE G J K R rl rm rn v n xs hs (rr.alloc _) (qt ⟨W.heap.size,0,qu⟩) 1 1 d.toList hx (by simp[rv]) (λh=>by cases h)
  (λad rI j u hu=> ?_) h1 rx rB (by rw[World.size_alloc];omega) (λf w' r1 q r3=> ?_)
 ·obtain rfl:(⟨W.heap.size,0,qu⟩:oA)=ad:=by simpa using rI
  have:=zJ W d.toList e j u hu;simpa using this
 ·refine h f w' r1 ?_ (λk y=> ?_)
  ·refine⟨q.os,q.tape,q.output,by have:=q.size;rw[World.size_alloc] at this;omega,λk y hn=> ?_⟩
   rw[q.block k (by rw[World.size_alloc];omega) (λe=>hn e.symm)];exact bt W _ k y
  ·rcases r3 k y with h|h
   ·exact .inl h
   ·right;rw[World.size_alloc] at h;omega
end Go.Proofs.YtjomgckjhcfbgaaGreat
