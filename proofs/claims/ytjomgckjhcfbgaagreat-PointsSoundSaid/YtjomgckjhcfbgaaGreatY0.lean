/- Walks. -/
import Derived.Test.YtjomgckjhcfbgaaGreatProg
import Derived.WalkKit
import Derived.WalkLawsBesides
import Derived.WalkSpells
import Derived.Lib.Hide
import Derived.Laws.CopyOwn
import Derived.Deep.QuietTactic
import Derived.BigQuiet
import Derived.Maps.AppendAt
import Derived.RangeFuncNested
import Derived.RangeFuncBound
import Derived.RangeFuncCalls
import Derived.RangeFuncLeaves
import Derived.Shelf.Abstract
import Derived.OwnWalkIn
import Derived.TacticsInMore
import Derived.LoopNIn
import Derived.LoopIn
import Derived.Deep.AppendLies
import Derived.Deep.LoopGhost
import Derived.Deep.RegionHeld3
import Derived.Deep.DeepCutAuto
import Derived.RegionTactic
import Derived.Laws.OwnMore
import Derived.Laws.IdiomCopy
import Derived.WalkMore
import Derived.Deep.Slices
import Derived.Carry
import Derived.OrdersHeld
import Derived.Deep.RegionHeldLaw
import Derived.Deep.Quiet
import Derived.Laws.ResultCell
import Derived.Deep.WholeRow
set_option maxRecDepth 100000
set_option maxHeartbeats 64000000
set_option linter.all false
namespace Go.Proofs.YtjomgckjhcfbgaaGreat
open Go.RowKit
open Go.Proofs.Tryz renaming prog→ac,underlying42→cJ,underlying3→dj,underlying32→ey,underlying4→ii,underlying9→im,underlying35→iu,underlying40→m5
open _root_.List renaming getElem?_eq_getElem→am,getElem?_eq_some_iff→ap,mem_of_getElem?→cf,mem_singleton→cH,mem_append→cT,take_length→de,eq_nil_of_length_eq_zero→du,range→ej,getElem?_append_right→et,mem_cons→fy,length_cons→fS,getElem?_append_left→gR,mem_range→jn,any_eq_true→kq,length_nil→mp,take_add_one→mT,replicate→nF,length_take→pp,exists_cons_of_length_eq_add_one→pN,getElem?_take→pS,getElem?_drop→qv,nodup_cons→rn,length_pos_iff→rx
open Go.RowKit.Below renaming refl→aq,heap_alloc→cn,heap_setCell→dl
open _root_ renaming ByteArray→aE,List→bm,Int→bp,Nat→bx,if_neg→cE,if_pos→cR,Array→da,Option→eA,absurd→fW,False→mb,beq_iff_eq→mN,Bool→nj,if_true→rh
open Go.RowKit renaming Below→bh,Hid→cm
open _root_.Array renaming getElem?_eq_some_iff→bj,getElem?_setIfInBounds_ne→jz,replicate→mL,setIfInBounds_comm→oX,any_eq_true'→qr,getD_eq_getD_getElem?→te
open Go renaming heap_setCell_same→bk,cell_of_row→cc,Value→cd,storeCells→dr,maxLen→dT,frozen_of_row→eq,run_underlying→fN,Calls→gd,TypeId→gx,heap_alloc2_old→ia,Oper→ke,yielded→kj,Program→km,heap_alloc2_new→lx,ready_mono→nl,MemPlace→od,run_loadVar_row→oe,bytes→py,wpIn_wide→pT,wpQuiet→rB,wpList→sL,wpListIn→tm,results→tz
open _root_.Nat renaming lt_of_lt_of_le→bl,le_refl→ce,zero_le→cN,zero_add→cV,le_trans→cY,lt_or_ge→j8,le_succ_of_le→sn,add_assoc→sB
open _root_.Option.some renaming inj→cD
open _root_.Int renaming toNat_natCast→cP
open Go.Addr renaming add_lit→dc
open Go.Region renaming ready→dd,wanted→eC,noSelect→fi,binds→fz,Mode→gO,free→kB,noSelect_spec→lk,free_spec→mB
open Go.DataW renaming trod_int→ev,trod_struct→eS,trod→kp,trod_string→lA
open Go.Value renaming int→eE,string→tM,slice→tP,pointer→tR,bool→tU,agg→tW,int→Z
open _root_.Bool renaming and_eq_true→eN,or_eq_true→hU,true→tE,false→tG
open Go.Sem renaming run_bind→ft
open Go.Result renaming andThen→fX,andThen_ok→mA
open Go.Fence renaming wide→ge
open Go.Value.slice renaming injEq→gj
open Go.Builtin renaming append_→jp,firstCells→m7,lenOf→pB
open _root_.ByteArray renaming empty→lp
open Go.Oper renaming wp→lR
open _root_.Option renaming any_eq_true→pZ,some→tB,none→tD
open Go.Code renaming region→ti
open Go.Obj renaming cells→ua
open Go.Ending renaming returned→ub
open Go.IntKind renaming i64→U
open Tryz
theorem oh:(ac.info? 3).map (λi=>(i.zero,i.size,i.bytes))=tB (tB (Z U 0),1,8):=by kernel_rfl
structure Ext (M:bx->Prop)(w w':World):Prop where
 os:w'.os=w.os
 tape:w'.tape=w.tape
 output:w'.output=w.output
 size:w.heap.size<=w'.heap.size
 block:∀k,k<w.heap.size->¬M k->w'.heap[k]?=w.heap[k]?
def aT (w:World)(base:bx)(v:cd)(xs:bm bp):Prop:=w.ownsRow base 3 1 v xs.length (xs.map (eE .i64))
theorem aT.nil (w:World)(base:bx):aT w base (tP tD 0 0) []:=World.ownsRow_nil _ _ _ _
theorem aT.mono {w:World}{base d:bx}{v:cd}{xs:bm bp}(h:aT w base v xs)(u:d<=base):aT w d v xs:=by
 refine⟨h.1, ?_⟩;rcases h.2 with h|⟨g,cap,cur,f,A,q⟩
 ·exact .inl h
 ·exact .inr ⟨g,cap,cur,f,by omega,q⟩
theorem aT.shape {w:World}{base n cap:bx}{d:eA Addr}{xs:bm bp}(h:aT w base (tP d n cap) xs)(G:0<xs.length):
  ∃g,d=tB ⟨g,0,tD⟩/\base<=g/\g<w.heap.size/\∀(k:bx)(z:bp),xs[k]?=tB z->w.cell? ⟨g,k,tD⟩=tB (Z U z):=by
 rcases h.2 with⟨f,q⟩|⟨g,J,cur,f,q,u,h4,h5,h6,A⟩
 ·omega
 ·have D:d=tB ⟨g,0,tD⟩:=by simp only[gj] at f;exact f.1
  refine⟨g,D,q,(bj.1 u).1,λk z v=> ?_⟩;rw[cc w g k cur _ _ u];have hk:k<xs.length:=(ap.1 v).1;have e:(cur.toList.take (xs.length*1))[k]?=tB (Z U z):=by rw[A];simp[v]
  rw[pS,cR (by omega)] at e;simpa using e
theorem aT.app {w:World}{base:bx}{v:cd}{xs:bm bp}{z:bp}(h:w.ownsRow base 3 1 v (xs.length+1) (xs.map (eE .i64)++[Z U z])):aT w base v (xs++[z]):=by
 unfold aT;simpa using h
theorem aT.isSlice {w:World}{base:bx}{v:cd}{xs:bm bp}(h:aT w base v xs):∃f cap,v= tP f xs.length cap:=by
 rcases h.2 with⟨d,q⟩|⟨g,cap,cur,d,_⟩
 ·exact⟨tD,0,by rw[q];exact d⟩
 ·exact⟨_,_,d⟩
theorem dL {α:Type}{xs:bm α}{k:bx}{z:α}(h:xs[k]?=tB z):xs.take (k+1)=xs.take k++[z]:=by
 rw[mT,h];rfl
structure Ins where
 op:bp
 d:bp
 a:bp
 b:bp
 f:bp
 n:bp
 sign:aE
 argsV:cd
 modeV:cd
 tI:bp
 els:bp
 ln:bp
 cl:bp
 args:bm bp
def Ins.cells (i:Ins):da cd:=#[Z U i.op,Z U i.d,Z U i.a,Z U i.b,Z U i.f,Z U i.n,tM i.sign,i.argsV,i.modeV,Z U i.tI,Z U i.els,Z U i.ln,Z U i.cl]
def lJ (w:World)(xs:bm bp)(e:Ending)(w':World):Prop:=
 ∃d cap,e= ub (tP d xs.length cap)/\aT w' w.heap.size (tP d xs.length cap) xs/\bh w.heap.size w w'
theorem ownsRow_below {w w':World}{base:bx}{e:gx}{size:bx}{v:cd}{n:bx}{xs:bm cd}(h:w.ownsRow base e size v n xs)(f:bh w.heap.size w w'):w'.ownsRow base e size v n xs:=by
 refine⟨h.1, ?_⟩;rcases h.2 with q|⟨g,cap,cur,u,A,d,D⟩
 ·exact .inl q
 ·exact .inr ⟨g,cap,cur,u,A,(f.block g (bj.1 d).1).trans d,D⟩
theorem vW (w:World)(d:bm cd)(t:gx):∀j u,d[j]?=tB u->(w.alloc (ua d.toArray t)).cell? ((⟨w.heap.size,0,tD⟩:Addr).add j)=tB u:=by
 intro j u h;rw[dc,cV,World.cell?_alloc_new];simpa using h
theorem lK {P:km}{w:World}{ops:da ke}{rest:bm ke}{o:ke}{a:Act}{Q:Exit->Act->World->Prop}
  (u:o.guard=tD)(l c:Operand)(t:gx)(v:o.op=Op.makeSlice t l c)
  (e:gx)(i:TypeInfo)(z:cd)(A:P.underlying t=tB (.slice e))(D:P.info? e=tB i)(G:i.zero=tB z)(J:i.size=1)(uc:z.cells=#[z])
  (f q:IntKind)(L C:bp)(n:bx)(hl:a.eval l= .int f L)(hc:a.eval c= .int q C)(hL:L=(n:bp))(hC:C=(n:bp))(b2:i.bytes*n<=281474976710656)(b3:n<=dT)
  (hK:sL P ops Q rest (a.put o.dst (tP (tB ⟨w.heap.size,0,tD⟩) n n)) (w.alloc (ua (nF n z).toArray e))):
  sL P ops Q (o::rest) a w:=by
 refine wpList_plain u λK ud=> ?_;subst hL;subst hC;have ue:(n:bp)<=9223372036854775807:=by
  have h:=b3;simp[dT] at h;omega
 have ur:(i.bytes:bp)*(n:bp)<=281474976710656:=by
  have h:((i.bytes*n:bx):bp)<=281474976710656:=by omega
  rwa [Int.natCast_mul] at h
 have d:=run_make (P:=P) w t e i z A D G f q n n (by omega) (Int.le_refl _) ur ue;simp only[cP,J,uc,Nat.mul_one] at d;have hm:madeCells #[z] n=(nF n z).toArray:=by
  rw[<-toList_madeCells_one]
 rw[hm] at d;unfold lR;simp[execOp,v,hl,hc,d,fX];exact ud _ _ (by simpa using hK)
theorem jb {P:km}(w:World)(q:Addr)(h:gx)(f:da cd)(d:TypeDesc)(G:∀j u,f.toList[j]?=tB u->w.cell? (q.add j)=tB u)
  (J:P.underlying h=tB d)(hd:(match d with| .struct _| .array _ _=>tE|_=>tG)=tE)(A:(P.info? h).map (·.size)=tB f.size):
  (loadVar h q).run P w= .ok (tW f) w:=by
 have D:(loadCells q f.toList.length).run P w= .ok f.toList.toArray w:=run_loadCells_list (P:=P) w q f.toList G;cases v:P.info? h with
 |none=>simp[v] at A
 |some i=>
  have hs:i.size=f.size:=by simpa[v] using A
  have uc:(isAgg h).run P w= .ok tE w:=by
   unfold isAgg;rw[ft,fN J w];cases d<;>simp_all
  simp only[Array.length_toList,Array.toArray_toList] at D;simp[loadVar,ft,uc,sizeOf,typeInfo,v,hs,D]
theorem aG {P:km}{ops:da ke}{rest:bm ke}{o:ke}{a:Act}{w:World}{Q:Exit->Act->World->Prop}(A:o.guard=tD)(f:gx)(x:Operand)(D:o.op= .load f x)
  (v:Addr)(G:a.eval x= tR (tB v))(q:da cd)(d:TypeDesc)(J:∀j u,q.toList[j]?=tB u->w.cell? (v.add j)=tB u)
  (hu:P.underlying f=tB d)(hd:(match d with| .struct _| .array _ _=>tE|_=>tG)=tE)(hi:(P.info? f).map (·.size)=tB q.size)
  (h:sL P ops Q rest (a.put o.dst (tW q)) w):sL P ops Q (o::rest) a w:=
 wpList_plain A λ_ hK=>by
  unfold lR execOp;simp only[D,G,Instr.loadAt,Instr.sureAddr,ft,Sem.run_pure,mA,jb w v f q d J hu hd hi];exact hK _ _ h
def jL (w:World)(B:bx)(h:eA Addr)(d:bm Ins):Prop:=
 d≠[]->∃b f,h=tB ⟨b,f,tD⟩/\b<B/\∀i x,d[i]?=tB x->∀k u,x.cells.toList[k]?=tB u->w.cell? ⟨b,f+i*13+k,tD⟩=tB u
theorem jL.below {w w':World}{B n:bx}{d:eA Addr}{f:bm Ins}(h:jL w B d f)(v:bh n w w')(A:B<=n):jL w' B d f:=by
 intro D;obtain⟨b,G,J,q,h3⟩:=h D;exact⟨b,G,J,q,λi x hx k u hu=>by rw[v.cell (p:=⟨b,_,tD⟩) (bl q A)];exact h3 i x hx k u hu⟩
structure qp where
 nm:aE
 par:bp
 varsA:eA Addr
 nvars:bx
 varsC:bx
 rp:nj
 rto:aE
 rcl:bp
 fromA:eA Addr
 nfrom:bx
 fromC:bx
 insA:eA Addr
 insC:bx
 ins:bm Ins
def qp.cells (c:qp):da cd:=#[tM c.nm,Z U c.par,tP c.varsA c.nvars c.varsC,tU c.rp,tM c.rto,Z U c.rcl,tP c.fromA c.nfrom c.fromC,tP c.insA c.ins.length c.insC]
theorem zH {p:Prop}(h:p):cm p:=h
theorem zE {α:Sort _}(a:α):∃b,a=b:=⟨a,rfl⟩
theorem zR {W:World}{b:bx}{d:da cd}{f:gx}{q:bx×bx}(u:W.heap[b]?=tB (ua d f q))(k:bx)(v:cd)(h:d[k]?=tB v:=by rfl):W.cell? ⟨b,k,tD⟩=tB v:=by
 rw[cc _ _ _ _ _ _ u];exact h
theorem iV {N:bx}{w W:World}{o:Obj}(h:w.alloc o=W)(d:w.heap.size=N):bh N w W:=by
 rw[<-h,<-d];exact(aq _ _).alloc (ce _) _
theorem uF {N:bx}{w W:World}{o q:Obj}(h:(w.alloc o).alloc q=W)(d:w.heap.size=N):bh N w W:=by
 rw[<-h,<-d];exact((aq _ _).alloc (ce _) _).alloc (by simp) _
theorem iq {w W:World}{o:Obj}(h:w.alloc o=W):bh w.heap.size w W:=iV h rfl
theorem Ir {w W:World}{o q:Obj}(h:(w.alloc o).alloc q=W):bh w.heap.size w W:=uF h rfl
theorem zD {w w2 W:World}{o:Obj}(h:w2.alloc o=W)(d:cm (bh w.heap.size w w2)):bh w.heap.size w W:=by
 rw[<-h];exact d.out.alloc d.out.size _
theorem yP {w W:World}{N:bx}{o q:Obj}(h:(w.alloc o).alloc q=W)(d:w.heap.size=N):W.heap[N]?=tB o:=by
 rw[<-h,<-d];exact ia _ _ _
theorem AO {w W:World}{N:bx}{o q:Obj}(h:(w.alloc o).alloc q=W)(d:w.heap.size=N):W.heap[N+1]?=tB q:=by
 rw[<-h,<-d];exact lx _ _ _
abbrev zP (f:FuncId)(d:da cd)(w:World)(v:cd):Prop:=gd ac f d w λe w'=>e= ub v/\bh w.heap.size w w'
abbrev zS (f:FuncId)(d:da cd)(w:World)(v:cd):Prop:=gd ac f d w λe w'=>e= ub v/\w=w'
theorem zU {α:Type _}{l:bm α}{n:bx}(h:l.length=n+1):∃a t,l=a::t/\t.length=n:=by
 obtain⟨a,t,e⟩:=pN h;exact⟨a,t,e,by subst e;simpa using h⟩
section ext
variable {M M':bx->Prop}{w w' w'':World}
theorem Ext.refl (M:bx->Prop)(w:World):Ext M w w:=⟨rfl,rfl,rfl,ce _,λ_ _ _=>rfl⟩
theorem Ext.mono (h:Ext M w w')(d:∀k,M k->M' k):Ext M' w w':=⟨h.os,h.tape,h.output,h.size,λk f q=>h.block k f (λe=>q (d k e))⟩
theorem Ext.trans (h:Ext M w w')(k:Ext M' w' w'')(q:∀j,M' j->M j\/w.heap.size<=j):Ext M w w'':=
 ⟨k.os.trans h.os,k.tape.trans h.tape,k.output.trans h.output,cY h.size k.size,λj d f=>(k.block j (bl d h.size) (λe=>by rcases q j e with e|e;exact f e;omega)).trans (h.block j d f)⟩
theorem Ext.drew (h:Ext M w w'):Ext M w w'.drew:=⟨h.os,h.tape,h.output,h.size,h.block⟩
theorem Ext.alloc (h:Ext M w w')(o:Obj):Ext M w (w'.alloc o):=⟨h.os,h.tape,h.output,by rw[World.size_alloc];exact sn h.size,λk d f=>(cn w' o k (bl d h.size)).trans (h.block k d f)⟩
theorem Ext.setCell (h:Ext M w w'){a:Addr}(d:M a.block\/w.heap.size<=a.block)(v:cd):Ext M w (w'.setCell a v):=
 ⟨h.os,h.tape,h.output,by rw[World.size_setCell];exact h.size,λk q f=>(dl w' a v k (λe=>by subst e;rcases d with d|d;exact f d;omega)).trans (h.block k q f)⟩
theorem Ext.set1 (w:World)(b o:bx)(v:cd):Ext (·=b) w (w.setCell ⟨b,o,tD⟩ v):=(Ext.refl (·=b) w).setCell (a:=⟨b,o,tD⟩) (.inl rfl) v
theorem Ext.putObj (w:World)(l:bx)(o:Obj):Ext (·=l) w (w.putObj l o):=⟨rfl,rfl,rfl,by simp,λ_ _ d=>World.putObj_heap_other d⟩
theorem Ext.of_below {B:bx}(h:bh B w w'):Ext (B<=·) w w':=⟨h.os,h.tape,h.output,h.size,λk _ d=>h.block k (by omega)⟩
theorem Ext.of_below_size (h:bh w.heap.size w w'):Ext M w w':=⟨h.os,h.tape,h.output,h.size,λk d _=>h.block k d⟩
theorem Ext.below {B:bx}(h:Ext M w w')(f:B<=w.heap.size)(d:∀k,M k->B<=k):bh B w w':=⟨h.os,h.tape,h.output,h.size,λk q=>h.block k (by omega) (λe=>by have:=d k e;omega)⟩
theorem Ext.of_grown {row:eA bx}(h:w.grownBy w' row)(d:∀k,row=tB k->M k\/w.heap.size<=k):Ext M w w':=⟨h.os,h.tape,h.output,h.size,λk f q=>h.block k f (λe=>by rcases d k e.symm with e|e;exact q e;omega)⟩
theorem Ext.cell (h:Ext M w w'){a:Addr}(d:a.block<w.heap.size)(f:¬M a.block):w'.cell? a=w.cell? a:=World.cell?_of_block (w:=w) (h.block a.block d f)
theorem Ext.heap (h:Ext M w w'){k:bx}{o:Obj}(d:w.heap[k]?=tB o)(f:¬M k):w'.heap[k]?=tB o:=(h.block k (bj.1 d).1 f).trans d
end ext
def mark (b:bx):Deferred:={target:= .collected b,args:=#[]}
def bodyPostC (P:km)(fn:Func)(R:Ending->World->Prop):Exit->Act->World->Prop
 | .normal,a,w| .ret,a,w=>∃bs:bm bx,a.defers=bs.map mark/\bs.Nodup/\(∀b∈bs,w.heap[b]?=tB (.deferred (tB [])))/\
   ∃v,∀w',Ext (·∈bs) w w'->(tz fn a.tmps).run P w'= .ok v w'/\R (ub v) w'
 |_,_,_=>mb
theorem kH {P:km}{fn:Func}{n:bx}{tmps:da cd}{R:Ending->World->Prop}{v:cd}:∀(bs:bm bx)(w:World),bs.Nodup->(∀b∈bs,w.heap[b]?=tB (.deferred (tB [])))->
  (∀w',Ext (·∈bs) w w'->(tz fn tmps).run P w'= .ok v w'/\R (ub v) w')->LeavesInM ge n P fn tmps R (bs.map mark) .returning w
 |[],w,_,_,h=>⟨v,h w (Ext.refl _ _)⟩
 |b::bs,w,d,f,h=>by
  refine⟨by simp,.inl ⟨b,_,rfl,run_takeDeferred (f b (by simp)), ?_⟩⟩;have A:b∉bs:=(rn.1 d).1;refine kH bs _ (rn.1 d).2 (λq u=> ?_) (λw' D=>h w' ?_)
  ·rw[World.putObj_heap_other (λe:q=b=>A (by rw[<-e];exact u))];exact f q (by simp[u])
  ·exact((Ext.putObj w b _).mono (by simp)).trans D (λj G=> .inl (by simp[G]))
theorem jD {P:km}{f:FuncId}{fn:Func}{c:Code}{args:da cd}{w:World}{R:Ending->World->Prop}(G:P.funcs[f]?=tB fn)(J:fn.body=tB c)
  (h:c.wp P (bodyPostC P fn R) {tmps:=args++mL (fn.ntmps-args.size) undef,defers:=[]} w):gd P f args w R:=by
 refine(callsIn_wide (n:=0)).1 (callsIn_of_wp_marks G J trivial (pT.2 (wp_mono h ?_)));intro e a w d;cases e with
 |normal=>obtain⟨bs,q,u,A,v,D⟩:=d;show LeavesInM _ _ _ _ _ _ a.defers _ _;rw[q];exact kH bs w u A D
 |ret=>obtain⟨bs,q,u,A,v,D⟩:=d;show LeavesInM _ _ _ _ _ _ a.defers _ _;rw[q];exact kH bs w u A D
 |panic _=>exact d.elim
 |exit _=>exact d.elim
 |goto _=>exact d.elim
 |outgrown=>exact d.elim
def Cf (P:km)(fv:cd)(args:da cd)(W:World)(R:cd->World->Prop):Prop:=
 ∀(r:eA bx)(n:bx)(o:ke)(f:Operand)(d:da Operand)(ts:da gx)(a:Act)(K:Act->World->Prop)(Q:Exit->Act->World->Prop),
  o.op= .call {callee:= .value f,args:=d,argTypes:=ts}->a.eval f=fv->d.map a.eval=args->(∀v w',R v w'->K (a.put o.dst v) w')->o.wpIn {ge with round:=r} n P a W K Q
theorem AP {r:eA bx}{o:ke}{c:Call}(ρ:Operand->cd)(d:o.op= .call c):o.semAt r ρ=execOp ρ o:=Oper.semAt_eq r ρ o (λf h=>by rw[d] at h;cases h)
theorem lL {P:km}{l m:bx}{args:da cd}{W:World}{R:cd->World->Prop}(h:YieldAt ge m P l args W λe w'=>∃v,e= ub v/\R v w'):Cf P (.func (.yield l) #[] #[]) args W R:=by
 intro r n o f ys ts a K Q d q u A;obtain⟨fn,tmps,assign,body,D,_,G⟩:=h;refine⟨λ_ _=>trivial, ?_⟩;rw[AP _ d];unfold execOp;simp only[d,resolve,q,u];have e:(invoke (Target.fn (.yield l) #[]) (#[]++args)).run P W= .ok (.round l fn tmps assign body) W:=by simp[invoke,D]
 simp only[Deferred.ofValue,ft,Sem.run_pure,mA,e];refine⟨λh=>by simp[ge] at h,trivial,λc J _=> ?_⟩;obtain⟨e',w',⟨v,rfl,hv⟩,hs⟩:=G c J (room_wide _);exact⟨ub v,w',A v w' hv,hs⟩
theorem eU {P:km}{n:bx}{ops:da ke}{rest:bm ke}{o:ke}{a:Act}{w:World}{Q:Exit->Act->World->Prop}{r:eA bx}(q:o.guard=tD)(f:Operand)(d:da Operand)(ts:da gx)
  (u:o.op= .call {callee:= .value f,args:=d,argTypes:=ts}){fv:cd}{args:da cd}{R:cd->World->Prop}(A:a.eval f=fv)(D:d.map a.eval=args)(G:Cf P fv args w R)
  (h:∀v w',R v w'->tm {ge with round:=r} n P ops Q rest (a.put o.dst v) w'):tm {ge with round:=r} n P ops Q (o::rest) a w:=
 wpListIn_plain q λ_ J=>G r n o f d ts a _ Q u A D λv w' hv=>J _ _ (h v w' hv)
theorem aB {P:km}{n:bx}{ops:da ke}{rest:bm ke}{o:ke}{a:Act}{w w':World}{Q:Exit->Act->World->Prop}{r:eA bx}(d:o.guard=tD)(f:∀c,o.op≠ .defer c)(v:cd)
  (q:(execOp a.eval o).run P w= .ok (.value v) w')(h:tm {ge with round:=r} n P ops Q rest (a.put o.dst v) w'):tm {ge with round:=r} n P ops Q (o::rest) a w:=
 wpListIn_plain d λ_ u=>by
  refine⟨λ_ _=>trivial, ?_⟩;rw[Oper.semAt_eq _ _ _ f,q];exact u _ _ h
def Iter (P:km)(gf:bx)(lb:da cd){α:Type}(A:α->da cd)(xs:bm α)(Rd:bx->Prop)(w:World):Prop:=
 ∀(l:bx)(J:bm α->(bx->Prop)->World->Prop)(q:bm α->World->Prop)(C:bx->Prop)(W:World),bh w.heap.size w W->
  (∀d C f h,J d C f->Ext (λk=>W.heap.size<=k/\¬C k) f h->J d C h)->
  (∀d C f,J d C f->∀k,C k->k<f.heap.size/\¬Rd k)->
  (∀d f h,q d f->Ext (λ_=>mb) f h->q d h)->
  (∀d x C f,J d C f->(d++[x])<+:xs->Cf P (.func (.yield l) #[] #[]) (A x) f λv h=>
   (v= tU tE/\∃u:bx->Prop,(∀k,u k->C k\/f.heap.size<=k)/\J (d++[x]) u h/\Ext C f h)\/(v= tU tG/\q (d++[x]) h))->
  J [] C W->
  gd P gf (#[.func (.yield l) #[] #[]]++lb) W λe W'=>∃v,e= ub v/\((∃u,J xs u W')\/(∃d,d<+:xs/\q d W'))
def wY {α:Type}(I:bm α->(bx->Prop)->World->Prop)(h:Code->bm α->(bx->Prop)->World->Prop)(C:bx->Prop)(W:World)(f:bm α):Exit->Act->World->Prop
 | .normal,_,W'=>∃d:bx->Prop,(∀k,d k->C k\/W.heap.size<=k)/\I f d W'/\Ext C W W'
 | .ret,_,W'=>∃d:bx->Prop,(∀k,d k->C k\/W.heap.size<=k)/\h .ret f d W'/\Ext C W W'
 | .exit id,_,W'=>∃d:bx->Prop,(∀k,d k->C k\/W.heap.size<=k)/\h (.exit id) f d W'/\Ext C W W'
 | .goto t,_,W'=>∃d:bx->Prop,(∀k,d k->C k\/W.heap.size<=k)/\h (.goto t) f d W'/\Ext C W W'
 |_,_,_=>mb
theorem jX {P:km}{α:Type}{g:Operand}{ps:da Tmp}{assign body:Code}{Q:Exit->Act->World->Prop}{a:Act}{w:World}{gf:bx}{lb:da cd}{fn:Func}{fb:Code}
  (hg:a.eval g= .func (.func gf) #[] lb)(hf:P.funcs[gf]?=tB fn)(wk:(fn.name=="runtime.NumGoroutine")=tG)(hb:fn.body=tB fb)
  {vj:α->da cd}{xs:bm α}{Rd:bx->Prop}{w0:World}(wl:Iter P gf lb vj xs Rd w0)(vy:bh w0.heap.size w0 w)(hRd:∀k,Rd k->k<w.heap.size)(ws:∀x,(vj x).size=ps.size)
  (I:bm α->(bx->Prop)->World->Prop)(Ix:Code->bm α->(bx->Prop)->World->Prop)
  (hI:∀d C W W',I d C W->Ext (λk=>w.heap.size<=k/\¬C k) W W'->I d C W')
  (hIC:∀d C W,I d C W->∀k,C k->k<W.heap.size/\¬Rd k)
  (hIx:∀c d C W W',Ix c d C W->Ext (λk=>w.heap.size<=k/\¬C k) W W'->Ix c d C W')
  (C0:bx->Prop)(h0:I [] C0 w)
  (hround:∀(l:bx)(d:bm α)(x:α)(C:bx->Prop)(W:World),w.heap.size<=l->I d C W->(d++[x])<+:xs->
   assign.wpIn (ge.inRound l) 0 P (Exit.then (λa₁ W₁=>∃C₁:bx->Prop,(∀k,C₁ k->C k\/W.heap.size<=k)/\I d C₁ W₁/\Ext C W W₁/\
    ∀W₂,I d C₁ W₂->Ext (·=l) W₁ W₂->body.wpIn (ge.inRound l) 0 P (wY I Ix C₁ W₂ (d++[x])) a₁ W₂) (λ_ _ _=>mb))
    {tmps:=(ps.zip (vj x)).foldl (λt (p,v)=>t.setIfInBounds p v) a.tmps,defers:=[]} W)
  (hdone:∀(D:bx)(C:bx->Prop)(W:World),w.heap.size<=D->¬C D->I xs C W->W.heap[D]?=tB (.deferred (tB []))->Q .normal {a with defers:=mark D::a.defers} W)
  (hstop:∀(D:bx)(c:Code)(d:bm α)(C:bx->Prop)(W:World),w.heap.size<=D->¬C D->d<+:xs->Ix c d C W->W.heap[D]?=tB (.deferred (tB []))->c.wp P Q {a with defers:=mark D::a.defers} W):
  (Code.rangeFunc g ps assign body).wp P Q a w:=by
 have eg:∀args w,(callFunc gf args).run P w= .ok (.enter gf args) w:=enters_of hf wk hb;refine(pT (n:=0)).1 (wpIn_rangeFunc ?_);intro we _;obtain⟨G,ue⟩:∃G:LoopState->eA Code->Loop,G=λst pe=>{state:=st,pending:=pe,fn:=we,tmps:=a.tmps,params:=ps,assign,body,defers:=w.heap.size}:=⟨_,rfl⟩
 obtain⟨W1,vi⟩:=zE ((w.alloc (.deferred (tB []))).alloc (.loop (G .ready tD)));obtain⟨D,hD⟩:=zE w.heap.size;obtain⟨l,hl⟩:=zE (w.heap.size+1);have ye:W1.heap.size=w.heap.size+2:=by rw[<-vi];simp
 have wx:W1.heap[l]?=tB (.loop (G .ready tD)):=by
  rw[<-vi,<-hl];have:=World.alloc_heap_new (w.alloc (.deferred (tB []))) (.loop (G .ready tD));rwa [World.size_alloc] at this
 have xf:W1.heap[D]?=tB (.deferred (tB [])):=by
  rw[<-vi,<-hD];exact(cn _ _ _ (by simp)).trans (World.alloc_heap_new w _)
 have wg:Ext (λ_=>mb) w W1:=by rw[<-vi];exact((Ext.refl _ w).alloc _).alloc _
 have xj:I [] C0 W1:=hI _ _ _ _ h0 (wg.mono (λ_ h=>h.elim));have xl:bh w0.heap.size w0 W1:=vy.trans ((wg.below (ce _) (λ_ h=>h.elim)).mono vy.size);refine⟨l,[mark D],W1,{target:= .fn (.func gf) lb,args:=#[.func (.yield l) #[] #[]]},W1,gf,#[.func (.yield l) #[] #[]]++lb,W1, ?_, ?_,λ_ _=>trivial, ?_,λh=>by simp[ge] at h, ?_⟩
 ·rw[<-vi,ue,<-hl,<-hD];exact run_enterLoop_outer _ _ _ _ _
 ·simp only[resolve,hg]
  simp[go_sem]
 ·simp[invoke,go_sem,eg]
 have xo:=wl l
  (λd C W=>∃q:bx->Prop,(∀k,C k↔q k\/k=l\/k=D)/\¬q l/\¬q D/\I d q W/\W.heap[l]?=tB (.loop (G .ready tD))/\W.heap[D]?=tB (.deferred (tB [])))
  (λd W=>∃(q:bx->Prop) (c:Code),¬q l/\¬q D/\Ix c d q W/\W.heap[l]?=tB (.loop (G .done (tB c)))/\W.heap[D]?=tB (.deferred (tB [])))
  (λk=>C0 k\/k=l\/k=D) W1 xl ?hst ?hC ?hstx ?hY ⟨C0,λ_=>Iff.rfl,λh=>by have:=(hIC _ _ _ h0 l h).1;omega,λh=>by have:=(hIC _ _ _ h0 D h).1;omega,xj,wx,xf⟩
 case hst=>
  rintro d C X Y ⟨q,J,n1,n2,hi,h1,h2⟩ hx;refine⟨q,J,n1,n2,hI _ _ _ _ hi (hx.mono λk hk=>⟨by omega,λh=>hk.2 ((J k).2 (.inl h))⟩),hx.heap h1 (λh=>h.2 ((J l).2 (by simp))),hx.heap h2 (λh=>h.2 ((J D).2 (by simp)))⟩
 case hC=>
  rintro d C X ⟨q,J,n1,n2,hi,h1,h2⟩ k hk;rcases(J k).1 hk with h|rfl|rfl
  ·exact hIC _ _ _ hi k h
  ·exact⟨(bj.1 h1).1,λh=>by have:=hRd _ h;omega⟩
  ·exact⟨(bj.1 h2).1,λh=>by have:=hRd _ h;omega⟩
 case hstx=>
  rintro d X Y ⟨q,c,n1,n2,hi,h1,h2⟩ hx;exact⟨q,c,n1,n2,hIx _ _ _ _ _ hi (hx.mono λ_ h=>h.elim),hx.heap h1 (λh=>h),hx.heap h2 (λh=>h)⟩
 case hY=>
  rintro d x C W ⟨q,J,n1,n2,hi,ur,vf⟩ vu;have yi:l<W.heap.size:=(bj.1 ur).1;have yk:D<W.heap.size:=(bj.1 vf).1;have hy:=run_yield (P:=P) (args:=vj x) ur (by rw[ue];exact ws x);rw[ue] at hy;refine lL (m:=0) ⟨we,_,assign,body,hy,roundIn_of_wpIn trivial (wpIn_mono (hround l d x q W (by omega) hi vu) ?_)⟩;intro e a₁ W₁ hq;cases e with
  |normal=>
   obtain⟨C₁,vm,xp,vh,xr⟩:=hq;have wi:=vh.heap ur n1;have xt:=vh.heap vf n2;have m1:¬C₁ l:=λh=>by rcases vm l h with h|h;exact n1 h;omega
   have m2:¬C₁ D:=λh=>by rcases vm D h with h|h;exact n2 h;omega
   refine⟨_,run_beginRound wi (by rw[ue]), ?_⟩;obtain⟨W₂,vx⟩:∃W₂,W₁.putObj l (.loop {G .ready tD with state:= .busy})=W₂:=⟨_,rfl⟩
   rw[vx];have uv:Ext (·=l) W₁ W₂:=by rw[<-vx];exact Ext.putObj _ _ _
   have xF:W₂.heap[l]?=tB (.loop {G .ready tD with state:= .busy}):=by rw[<-vx];exact World.putObj_heap_same (bj.1 wi).1
   have xT:W₂.heap[D]?=tB (.deferred (tB [])):=uv.heap xt (by omega);have ya:I d C₁ W₂:=hI _ _ _ _ xp (uv.mono λk hk=>by subst hk;exact⟨by omega,m1⟩);refine wpIn_mono (xr W₂ ya uv) ?_;have yb:Ext C W W₁:=vh.mono λk h=>(J k).2 (.inl h);have vp:∀(u:eA Code)(f:bx->Prop)(W₃:World),(∀k,f k->C₁ k\/W₂.heap.size<=k)->Ext C₁ W₂ W₃->
     (Instr.endRound l u).run P W₃= .ok (tU u.isNone) (W₃.putObj l (.loop (G (if u.isNone then .ready else .done) u)))/\
     (W₃.putObj l (.loop (G (if u.isNone then .ready else .done) u))).heap[l]?=tB (.loop (G (if u.isNone then .ready else .done) u))/\
     (W₃.putObj l (.loop (G (if u.isNone then .ready else .done) u))).heap[D]?=tB (.deferred (tB []))/\¬f l/\¬f D/\Ext C W (W₃.putObj l (.loop (G (if u.isNone then .ready else .done) u)))/\
     Ext (λk=>w.heap.size<=k/\¬f k) W₃ (W₃.putObj l (.loop (G (if u.isNone then .ready else .done) u)))/\(∀k,f k->q k\/W.heap.size<=k):=by
    intro u f W₃ uc ud;have wj:=ud.heap xF m1;have yd:=ud.heap xT m2;have A:=run_endRound (P:=P) u wj;rw[ue] at A⊢;have q1:¬f l:=λh=>by rcases uc l h with h|h;exact m1 h;have:=uv.size;have:=vh.size;omega
    have q2:¬f D:=λh=>by rcases uc D h with h|h;exact m2 h;have:=uv.size;have:=vh.size;omega
    refine⟨A,World.putObj_heap_same (bj.1 wj).1,(World.putObj_heap_other (by omega)).trans yd,q1,q2, ?_,(Ext.putObj _ _ _).mono (λk hk=>by subst hk;exact⟨by omega,q1⟩), ?_⟩
    ·refine((yb.trans uv (λj hj=> .inl ((J j).2 (by simp[hj])))).trans ud (λj hj=> ?_)).trans (Ext.putObj _ _ _) (λj hj=> .inl ((J j).2 (by simp[hj])))
     rcases vm j hj with h|h
     ·exact .inl ((J j).2 (.inl h))
     ·exact .inr h
    ·intro k hk
     rcases uc k hk with h|h
     ·exact vm k h
     ·right;have:=uv.size;have:=vh.size;omega
   intro e a3 W3 hp;cases e with
   |normal=>
    obtain⟨f,uc,ux,ud⟩:=hp;obtain⟨A,va,vc,q1,q2,vq,vd,vr⟩:=vp tD f W3 uc ud;refine⟨_,_,A,_,rfl,.inl ⟨rfl,λk=>f k\/k=l\/k=D,λk hk=> ?_,⟨f,λ_=>Iff.rfl,q1,q2,hI _ _ _ _ ux vd,va,vc⟩,vq⟩⟩;rcases hk with h|h|h
    ·rcases vr k h with h|h
     ·exact .inl ((J k).2 (.inl h))
     ·exact .inr h
    ·exact .inl ((J k).2 (by simp[h]))
    ·exact .inl ((J k).2 (by simp[h]))
   |ret=>
    obtain⟨f,uc,ux,ud⟩:=hp;obtain⟨A,va,vc,q1,q2,vq,vd,vr⟩:=vp (tB .ret) f W3 uc ud;exact⟨_,_,A,_,rfl,.inr ⟨rfl,f,.ret,q1,q2,hIx _ _ _ _ _ ux vd,va,vc⟩⟩
   |exit id=>
    obtain⟨f,uc,ux,ud⟩:=hp;obtain⟨A,va,vc,q1,q2,vq,vd,vr⟩:=vp (tB (.exit id)) f W3 uc ud;exact⟨_,_,A,_,rfl,.inr ⟨rfl,f,.exit id,q1,q2,hIx _ _ _ _ _ ux vd,va,vc⟩⟩
   |goto t=>
    obtain⟨f,uc,ux,ud⟩:=hp;obtain⟨A,va,vc,q1,q2,vq,vd,vr⟩:=vp (tB (.goto t)) f W3 uc ud;exact⟨_,_,A,_,rfl,.inr ⟨rfl,f,.goto t,q1,q2,hIx _ _ _ _ _ ux vd,va,vc⟩⟩
   |panic ch=>exact hp.elim
   |outgrown=>exact hp.elim
  |exit _=>exact hq.elim
  |goto _=>exact hq.elim
  |ret=>exact hq.elim
  |panic _=>exact hq.elim
  |outgrown=>exact hq.elim
 refine CallsIn.mono ((callsIn_wide (n:=0-1)).2 xo) ?_;rintro e W2 ⟨v,rfl,(⟨f,q,J,n1,n2,hi,ur,vf⟩|⟨d,vu,q,c,n1,n2,hi,ur,vf⟩)⟩
 ·have A:=run_endLoop (P:=P) ur (by rw[ue];simp)
  rw[ue] at A;refine⟨tD,_,A,hdone D q _ (by omega) n2 (hI _ _ _ _ hi ((Ext.putObj _ _ _).mono λk hk=>by subst hk;exact⟨by omega,n1⟩)) ((World.putObj_heap_other (by omega)).trans vf)⟩
 ·have A:=run_endLoop (P:=P) ur (by rw[ue];simp)
  rw[ue] at A;refine⟨tB c,_,A,pT.2 (hstop D c d q _ (by omega) n2 vu (hIx _ _ _ _ _ hi ((Ext.putObj _ _ _).mono λk hk=>by subst hk;exact⟨by omega,n1⟩)) ((World.putObj_heap_other (by omega)).trans vf))⟩
theorem bytes_inj {x y:aE}(h:x.data.toList=y.data.toList):x=y:=by
 obtain⟨a⟩:=x;obtain⟨b⟩:=y;have:a=b:=Array.ext' h;rw[this]
instance Gn:LawfulBEq aE where
 eq_of_beq {a b} h:=bytes_inj (by have:a.data=b.data:=eq_of_beq (show(a.data==b.data)=tE from h);rw[this])
 rfl {a}:=show(a.data==a.data)=tE from BEq.rfl
theorem GD {x y:aE}(h:x≠y):Lit.string x.data.toList≠Lit.string y.data.toList:=λe=>h (bytes_inj (by simpa using e))
theorem alloc_at (w:World)(o:Obj):(w.alloc o).heap[w.heap.size]?=tB o:=World.alloc_heap_new w o
theorem DY {α:Type}(l:bm α)(p:α->nj){q:bx}{x:α}(h:l[q]?=tB x):(l.take (q+1)).any p=((l.take q).any p||p x):=by
 rw[mT,h,List.any_append];simp
def aK {α:Type}(cells:α->da cd)(f:bx)(w:World)(B:bx)(h:eA Addr)(xs:bm α):Prop:=
 xs≠[]->∃b d,h=tB ⟨b,d,tD⟩/\b<B/\∀i x,xs[i]?=tB x->∀k u,(cells x).toList[k]?=tB u->w.cell? ⟨b,d+i*f+k,tD⟩=tB u
theorem aK.below {α:Type}{cells:α->da cd}{d:bx}{w w':World}{B n:bx}{f:eA Addr}{xs:bm α}(h:aK cells d w B f xs)(v:bh n w w')(A:B<=n):aK cells d w' B f xs:=by
 intro D;obtain⟨b,G,J,q,h3⟩:=h D;exact⟨b,G,J,q,λi x hx k u hu=>by rw[v.cell (p:=⟨b,_,tD⟩) (bl q A)];exact h3 i x hx k u hu⟩
structure DZ where
 nm:aE
 fA:eA Addr
 nf:bx
 fC:bx
 ln:bp
 cl:bp
def DZ.cells (s:DZ):da cd:=#[tM s.nm,tP s.fA s.nf s.fC,Z U s.ln,Z U s.cl]
def DZ.light (s:DZ):Prop:=s.nf<=40/\s.nm.size<=60
def Ins.ok (i:Ins):Prop:=(∃d cap,i.argsV= tP d i.args.length cap)/\∃d n cap,i.modeV= tP d n cap
def Ins.light (i:Ins):Prop:=i.args.length<=40/\(∃d n cap,i.modeV= tP d n cap/\n<=40)/\i.sign.size<=20
def qp.light (c:qp):Prop:=c.ins.length<=400/\c.nvars<=400/\c.nm.size<=60/\c.nfrom<=40/\∀x∈c.ins,x.light
def dP:bm qp->bx
 |[]=>0
 |c::r=>c.ins.length+c.nvars+dP r
theorem rF (a b:bm qp):dP (a++b)=dP a+dP b:=by
 induction a with
 |nil=>simp[dP]
 |cons x r ih=>simp[dP,ih];omega
def AQ (ss:bm DZ)(d:bm qp):Prop:=ss.length<=40/\d.length<=70/\(∀s∈ss,s.light)/\(∀c∈d,c.light)/\dP d<=1200
def wZ (w:World)(B:bx)(p:Prop)(e:Ending)(w':World):Prop:=∃b:nj,e= ub (tU b)/\(b=tE->p)/\bh B w w'
theorem dE {α:Type}{p:α->Prop}{xs:bm α}{j:bx}{x:α}(h:∀y∈xs.take j,p y)(f:xs[j]?=tB x)(q:p x):∀y∈xs.take (j+1),p y:=by
 rw[dL f];intro y u;rcases cT.1 u with d|d
 ·exact h y d
 ·simp at d;subst d;exact q
theorem xc (w:World)(sA fA:eA Addr)(sC fC:bx)(ss:bm DZ)(d:bm qp)(vx:aK DZ.cells 4 w w.heap.size sA ss)(vy:aK qp.cells 8 w w.heap.size fA d)
  (we:∀c∈d,jL w w.heap.size c.insA c.ins)(wg:∀c∈d,∀x∈c.ins,x.ok)(hs:ss.length<=9223372036854775807)(hc:d.length<=9223372036854775807):
  gd ac 70 #[tW #[tP sA ss.length sC,tP fA d.length fC]] w (wZ w w.heap.size (AQ ss d)):=by
 have wi:=zH vx;have wj:=zH vy;have wk:=zH we;have xo:=zH wg;clear vx vy we wg
 by_cases g1:40<ss.length
 ·go_enter func70,ntmps70
  go_wp2;go_ret;exact⟨_,rfl,by simp,(aq _ _).alloc (ce _) _⟩
 by_cases g2:70<d.length
 ·go_enter func70,ntmps70
  go_wp2;go_ret;exact⟨_,rfl,by simp,(aq _ _).alloc (ce _) _⟩
 go_enter func70,ntmps70;go_wp2;obtain⟨N,D⟩:=zE w.heap.size;obtain⟨v,uv⟩:=zE (w.alloc (ua #[tP sA ss.length sC,tP fA d.length fC] 25));have ux:=iV uv D;have vh:v.heap[N]?=tB (ua #[tP sA ss.length sC,tP fA d.length fC] 25 (0,0)):=by rw[<-uv,<-D];exact alloc_at _ _
 have xp:v.heap.size=N+1:=by rw[<-uv];simp[D]
 have zj:=zR vh 0 (tP sA ss.length sC);have xr:=zR vh 1 (tP fA d.length fC);have xt:cm (aK DZ.cells 4 v N sA ss):=by have:=wi.out;rw[D] at this;exact this.below ux (ce _)
 have xF:cm (aK qp.cells 8 v N fA d):=by have:=wj.out;rw[D] at this;exact this.below ux (ce _)
 have xT:cm (∀c∈d,jL v N c.insA c.ins):=λc hc=>by have:=wk.out c hc;rw[D] at this;exact jL.below this ux (ce _)
 rw[uv,D];have J:=zH ux;have zp:N<v.heap.size:=by omega
 clear uv ux vh wi wj wk xp
 go_loop [4] (λc=>∃j:bx,j<=ss.length/\c= Z U (j:bp)/\∀s∈ss.take j,s.light) (λc=>ss.length-(intOf c).toNat)
 case atStart=>exact⟨0,cN _,rfl,by simp⟩
 case round=>
  obtain⟨j,hj,rfl,G⟩:=hrel;have wl:=zH G;clear G
  by_cases uc:j<ss.length
  ·obtain⟨s,vd⟩:∃s,ss[j]?=tB s:=⟨_,am uc⟩
   obtain⟨b,f,rfl,ws,h⟩:=xt.out (by intro e;rw[e] at uc;simp at uc);have q0:v.cell? ⟨b,f+j*4,tD⟩=tB (tM s.nm):=h j s vd 0 _ rfl;have q1:v.cell? ⟨b,f+j*4+1,tD⟩=tB (tP s.fA s.nf s.fC):=h j s vd 1 _ rfl;have ya:=zH vd;clear vd h
   by_cases c1:40<s.nf
   ·go_wp2
    go_ret;exact⟨_,rfl,by simp,J.out⟩
   ·by_cases c2:60<s.nm.size
    ·go_wp2
     go_ret;exact⟨_,rfl,by simp,J.out⟩
    ·go_wp2
     go_round
     case rel=>exact⟨j+1,by omega,by go_num,dE wl.out ya.out ⟨by omega,by omega⟩⟩
     case measure=>simp[intOf];omega
  ·have vi:j=ss.length:=by omega
   subst vi;have yb:cm (∀s∈ss,s.light):=by have:=wl.out;rwa [de] at this
   go_wp2
   go_loopw [3,5] (λn c wr=>∃j:bx,j<=d.length/\c= Z U (j:bp)/\n= Z U ((dP (d.take j):bx):bp)/\dP (d.take j)<=1200/\(∀x∈d.take j,x.light)/\bh (N+1) v wr) (λ_ c _=>d.length-(intOf c).toNat)
   case atStart=>exact⟨0,cN _,rfl,rfl,by simp[dP],by simp,aq _ _⟩
   case round=>
    obtain⟨j,hj,rfl,rfl,ht,G,vj⟩:=hrel;have wx:=zH G;have ud:=zH vj;have zr:wr.cell? ⟨N,1,tD⟩=tB (tP fA d.length fC):=by rw[vj.cell (p:=⟨N,1,tD⟩) (by simp)];exact xr
    clear G vj
    by_cases uc:j<d.length
    ·obtain⟨c,vm⟩:∃c,d[j]?=tB c:=⟨_,am uc⟩
     obtain⟨b,f,rfl,ws,h⟩:=xF.out (by intro e;rw[e] at uc;simp at uc);have A:∀k u,c.cells.toList[k]?=tB u->wr.cell? ⟨b,f+j*8+k,tD⟩=tB u:=λk u hu=>by rw[ud.out.cell (p:=⟨b,_,tD⟩) (Nat.lt_succ_of_lt ws)];exact h j c vm k u hu
     have q0:wr.cell? ⟨b,f+j*8,tD⟩=tB (tM c.nm):=A 0 _ rfl;have q1:wr.cell? ⟨b,f+j*8+1,tD⟩=tB (Z U c.par):=A 1 _ rfl;have q2:wr.cell? ⟨b,f+j*8+2,tD⟩=tB (tP c.varsA c.nvars c.varsC):=A 2 _ rfl;have q3:wr.cell? ⟨b,f+j*8+3,tD⟩=tB (tU c.rp):=A 3 _ rfl;have q4:wr.cell? ⟨b,f+j*8+4,tD⟩=tB (tM c.rto):=A 4 _ rfl;have q5:wr.cell? ⟨b,f+j*8+5,tD⟩=tB (Z U c.rcl):=A 5 _ rfl;have q6:wr.cell? ⟨b,f+j*8+6,tD⟩=tB (tP c.fromA c.nfrom c.fromC):=A 6 _ rfl;have q7:wr.cell? ⟨b,f+j*8+7,tD⟩=tB (tP c.insA c.ins.length c.insC):=A 7 _ rfl;have vf:=zH vm;clear vm h A;have va:∀o:Obj,bh N w (wr.alloc o):=λo=>(J.out.trans (ud.out.mono (by omega))).alloc (by have:=ud.out.size;omega) _;have yd:N+1<=wr.heap.size:=by have:=ud.out.size;omega
     by_cases c1:400<c.ins.length
     ·go_wp2
      go_ret;exact⟨_,rfl,by simp,va _⟩
     by_cases c2:400<c.nvars
     ·go_wp2
      go_ret;exact⟨_,rfl,by simp,va _⟩
     by_cases c3:60<c.nm.size
     ·go_wp2
      go_ret;exact⟨_,rfl,by simp,va _⟩
     by_cases c4:40<c.nfrom
     ·go_wp2
      go_ret;exact⟨_,rfl,by simp,va _⟩
     have vp:cm (dP (d.take (j+1))=dP (d.take j)+(c.ins.length+c.nvars)):=by
      unfold cm;rw[dL vf.out,rF];simp[dP]
     obtain⟨T,hT⟩:∃T,T=dP (d.take j):=⟨_,rfl⟩
     rw[<-hT] at ht vp⊢;clear hT
     by_cases c5:1200<T+c.ins.length+c.nvars
     ·go_wp2
      go_ret;exact⟨_,rfl,by simp,va _⟩
     go_wp2;obtain⟨W2,ue⟩:=zE (wr.alloc (ua c.cells 38));obtain⟨M,hM⟩:=zE wr.heap.size;have xf:W2.heap[M]?=tB (ua c.cells 38 (0,0)):=by rw[<-ue,<-hM];exact alloc_at _ _
     have ye:=zR xf 7 (tP c.insA c.ins.length c.insC);have vc:cm (bh (N+1) v W2):=by rw[<-ue];exact ud.out.alloc yd _
     have yi:cm (jL W2 N c.insA c.ins):=jL.below (xT.out c (cf vf.out)) vc.out (by omega);have yk:cm (∀x∈c.ins,x.ok):=xo.out c (cf vf.out);have zv:=zH ue;simp only[qp.cells] at ue;rw[ue,hM];clear ue xf hM q0 q1 q2 q3 q4 q5 q6 q7
     go_loop [7] (λk=>∃q:bx,q<=c.ins.length/\k= Z U (q:bp)/\∀x∈c.ins.take q,x.light) (λk=>c.ins.length-(intOf k).toNat)
     case atStart=>exact⟨0,cN _,rfl,by simp⟩
     case round=>
      obtain⟨q,hq,rfl,G⟩:=hrel;have xj:=zH G;clear G
      by_cases vq:q<c.ins.length
      ·obtain⟨x,ur⟩:∃x,c.ins[q]?=tB x:=⟨_,am vq⟩
       obtain⟨b2,vr,hA2,An,h⟩:=yi.out (by intro e;rw[e] at vq;simp at vq);obtain⟨⟨yp,yq,xl⟩,yr,nm,yv,vu⟩:=yk.out x (cf ur);have r7:W2.cell? ⟨b2,vr+q*13+7,tD⟩=tB (tP yp x.args.length yq):=h q x ur 7 _ (by rw[<-xl];rfl);have r8:W2.cell? ⟨b2,vr+q*13+8,tD⟩=tB (tP yr nm yv):=h q x ur 8 _ (by rw[<-vu];rfl);have r6:W2.cell? ⟨b2,vr+q*13+6,tD⟩=tB (tM x.sign):=h q x ur 6 _ rfl;rw[hA2] at ye;have yy:=zH ur;have yW:=zH vu;clear ur h hA2 xl vu
       by_cases d1:40<x.args.length
       ·go_wp2
        go_ret;exact⟨_,rfl,by simp,J.out.trans (vc.out.mono (by omega))⟩
       by_cases d2:40<nm
       ·go_wp2
        go_ret;exact⟨_,rfl,by simp,J.out.trans (vc.out.mono (by omega))⟩
       by_cases d3:20<x.sign.size
       ·go_wp2
        go_ret;exact⟨_,rfl,by simp,J.out.trans (vc.out.mono (by omega))⟩
       go_wp2
       go_round
       case rel=>exact⟨q+1,by omega,by go_num,dE xj.out yy.out ⟨by omega,⟨_,_,_,yW.out,by omega⟩,by omega⟩⟩
       case measure=>simp[intOf];omega
      ·have zc:q=c.ins.length:=by omega
       subst zc;have zd:cm c.light:=by
        refine⟨by omega,by omega,by omega,by omega, ?_⟩;have:=xj.out;rwa [de] at this
       go_wp2;go_roundw
       case rel=>exact⟨j+1,by omega,by go_num,by rw[vp.out];go_num,by rw[vp.out];omega,dE wx.out vf.out zd.out,vc.out⟩
       case measure=>simp[intOf];omega
    ·have vi:j=d.length:=by omega
     subst vi;have HM:cm (AQ ss d):=by
      refine⟨by omega,by omega,yb.out, ?_, ?_⟩
      ·have:=wx.out;rwa [de] at this
      ·rwa [de] at ht
     go_wp2;go_ret;have hh:bh N w wr:=J.out.trans (ud.out.mono (by omega));exact⟨_,rfl,λ_=>HM.out,by first|exact hh|(rw[D];exact hh)⟩
section
open Go.RowKit Go.ChangeShapes Go.WideShapes Go.Deep
theorem lM {α:Type}(p:bx->α->Prop):∀n,(∀i,i<n->∃a,p i a)->∃xs:bm α,xs.length=n/\∀i x,xs[i]?=tB x->p i x
 |0,_=>⟨[],rfl,λi x h=>by simp at h⟩
 |n+1,h=>by
  obtain⟨xs,f,q⟩:=lM p n (λi d=>h i (by omega));obtain⟨a,u⟩:=h n (by omega);refine⟨xs++[a],by simp[f],λi x d=> ?_⟩;rcases j8 i n with A|D
  ·rw[gR (by omega)] at d;exact q i x d
  ·have v:i<(xs++[a]).length:=(ap.1 d).1
   simp[f] at v;obtain rfl:i=n:=by omega
   rw[et (by omega),f] at d;simp at d;subst d;exact u
theorem xe {w:World}{a:Addr}{v:cd}(h:w.cell? a=tB v):a=⟨a.block,a.off,tD⟩/\a.block<w.heap.size:=by
 unfold World.cell? at h
 split at h
 ·rename_i d
  have f:=(bj.1 d).1;obtain⟨b,o,s⟩:=a;cases s with
  |none=>exact⟨rfl,f⟩
  |some s=>simp at h
 ·simp at h
section
variable {H:Type}{enc:gx×cd->H}{P:km}{w:World}{base:bx}{spare:bx->nj}{held:nj}
theorem open_row {α:Type}(cells:α->da cd)(Q:α->Prop){t e:gx}{fuel:bx}{d:bm cd}{x:DataW H×bm od}(f:bx)(hst:0<f)(ht:P.underlying t=tB (.slice e))(hc:P.cellsOf e=f)
  (vc:∀(n:bx)(d:bm cd)(x:DataW H×bm od),kp enc P w base spare held n e d=tB x->∃a:α,(cells a).toList=d/\Q a)
  (h:kp enc P w base spare held fuel t d=tB x):
  ∃(ao:eA Addr) (xs:bm α) (cap:bx),d=[.slice ao xs.length cap]/\xs.length<=dT/\aK cells f w w.heap.size ao xs/\∀a∈xs,Q a:=by
 rcases open_slice ht h with⟨rfl,_⟩|⟨a,ud,cap,m,n,D,Pl,rfl,hb,hl,hm,vd,hx,hi⟩
 ·exact⟨tD,[],0,rfl,cN _,λG=>fW rfl G,λa v=>fW v (by simp)⟩
 ·have vm:ud<=m:=by rw[vd];split<;>omega
  obtain⟨xs,vf,ue⟩:=lM (λi (x:α)=>Q x/\∀k u,(cells x).toList[k]?=tB u->w.cell? (a.add (i*f+k))=tB u) ud (by
   intro i vp;obtain⟨ur,J,uv⟩:=hi i (by omega);obtain⟨x,ux,vh⟩:=vc n ur _ uv;obtain⟨_,A,q⟩:=World.cells?_some J;rw[hc] at A q;refine⟨x,vh,λk u hk=> ?_⟩;have vi:k<f:=by rw[<-A,<-ux];exact(ap.1 hk).1
   have:=q k vi;rw[<-Go.Deep.add_add,this,<-ux];exact hk)
  refine⟨tB a,xs,cap,by rw[vf],by omega,λG=> ?_,λx hx=> ?_⟩
  ·have vq:0<xs.length:=rx.2 G
   obtain⟨ur,J,uv⟩:=hi 0 (by omega);obtain⟨_,A,q⟩:=World.cells?_some J;rw[hc] at A q;have h0:=q 0 hst;rw[am (by omega),Nat.zero_mul] at h0;obtain⟨v,vj⟩:=xe h0;have va:a=⟨a.block,a.off,tD⟩:=by
    obtain⟨b,o,s⟩:=a;simp[Addr.add] at v⊢;exact v
   refine⟨a.block,a.off,by rw[<-va],by simpa[Addr.add] using vj,λi x uc k u hu=> ?_⟩;have:=(ue i x uc).2 k u hu;rw[va,dc,<-sB] at this;exact this
  ·obtain⟨i,uc⟩:=List.mem_iff_getElem?.1 hx
   exact(ue i x uc).1
end
theorem GG {H:Type}{enc:gx×cd->H}{P:km}{w:World}{base:bx}{spare:bx->nj}{held:nj}{r:Reach}{q:bx}{t:gx}{u:da Field}{v:cd}{d:DataW H}{p:bm od}(A:P.underlying t=tB (.struct u))
  (D:Value.okWide P w r q t v)(h:DataW.Trod enc P w base spare held t v d p):∃(f:da cd) (fuel:bx),v= .agg f/\kp enc P w base spare held fuel t f.toList=tB (d,p):=by
 obtain⟨f,rfl,_⟩:=okWide_struct A D;obtain⟨fuel,G⟩:=h;exact⟨f,fuel,rfl,by simpa[Value.cells] using G⟩
section
variable {H:Type}{enc:gx×cd->H}{w:World}{base:bx}{spare:bx->nj}{held:nj}
def kI (w:World)(d:eA Addr)(xs:bm bp):Prop:=aK (λz:bp=>#[Z U z]) 1 w w.heap.size d xs
theorem jE {fuel:bx}{d:bm cd}{x:DataW H×bm od}(h:kp enc ac w base spare held fuel 35 d=tB x):
  ∃(f:eA Addr) (xs:bm bp) (cap:bx),d=[.slice f xs.length cap]/\xs.length<=dT/\kI w f xs/\∀z∈xs,(Lit.int .i64 z).wf=tE:=by
 refine open_row _ (λz=>(Lit.int .i64 z).wf=tE) 1 (by decide) iu (by kernel_rfl) (λn d x q=> ?_) h;obtain⟨z,rfl,_,u⟩:=ev dj q;exact⟨z,rfl,u⟩
def Ins.args_in (w:World)(i:Ins):Prop:=i.ok/\∃d cap,i.argsV= tP d i.args.length cap/\kI w d i.args
theorem D5 {n:bx}{A:bm cd}{x:DataW H×bm od}(h:kp enc ac w base spare held n 42 A=tB x):∃i:Ins,i.cells.toList=A/\i.args_in w:=by
 obtain⟨xs,m,_,_,D,vc,q⟩:=eS cJ h;have hc:ac.cellsOf 42=13:=by kernel_rfl
 have xp:xs.length=12:=vc;rw[hc] at D;obtain⟨c0,xr,e0,vd⟩:=zU D;obtain⟨c1,xt,e1,vf⟩:=zU vd;obtain⟨c2,xF,e2,vh⟩:=zU vf;obtain⟨c3,xT,e3,vi⟩:=zU vh;obtain⟨c4,ya,e4,vj⟩:=zU vi;obtain⟨c5,yb,e5,vm⟩:=zU vj;obtain⟨c6,yd,e6,vp⟩:=zU vm;obtain⟨c7,ye,e7,vq⟩:=zU vp;obtain⟨c8,yi,e8,vr⟩:=zU vq;obtain⟨c9,yk,e9,vu⟩:=zU vr;obtain⟨vx,yp,vy,we⟩:=zU vu;obtain⟨wg,yq,wi,wj⟩:=zU we;obtain⟨wk,yr,wl,ws⟩:=zU wj;obtain rfl:=du ws;subst wl wi vy e9 e8 e7 e6 e5 e4 e3 e2 e1 e0;have g0:=(q 0 _ rfl).trans (am (show 0<xs.length by omega));obtain⟨op,r0,_,_⟩:=ev dj g0;obtain rfl:c0= .int .i64 op:=by simpa[show ac.cellsOf 3=1 from by kernel_rfl] using r0
 have g1:=(q 1 _ rfl).trans (am (show 1<xs.length by omega));obtain⟨d,r1,_,_⟩:=ev dj g1;obtain rfl:c1= .int .i64 d:=by simpa[show ac.cellsOf 3=1 from by kernel_rfl] using r1
 have g2:=(q 2 _ rfl).trans (am (show 2<xs.length by omega));obtain⟨a,r2,_,_⟩:=ev dj g2;obtain rfl:c2= .int .i64 a:=by simpa[show ac.cellsOf 3=1 from by kernel_rfl] using r2
 have g3:=(q 3 _ rfl).trans (am (show 3<xs.length by omega));obtain⟨b,r3,_,_⟩:=ev dj g3;obtain rfl:c3= .int .i64 b:=by simpa[show ac.cellsOf 3=1 from by kernel_rfl] using r3
 have g4:=(q 4 _ rfl).trans (am (show 4<xs.length by omega));obtain⟨f,r4,_,_⟩:=ev dj g4;obtain rfl:c4= .int .i64 f:=by simpa[show ac.cellsOf 3=1 from by kernel_rfl] using r4
 have g5:=(q 5 _ rfl).trans (am (show 5<xs.length by omega));obtain⟨n,r5,_,_⟩:=ev underlying2 g5;obtain rfl:c5= .int .i64 n:=by simpa[show ac.cellsOf 2=1 from by kernel_rfl] using r5
 have g6:=(q 6 _ rfl).trans (am (show 6<xs.length by omega));obtain⟨G,r6,_,_⟩:=lA im g6;obtain rfl:c6= .string G:=by simpa[show ac.cellsOf 9=1 from by kernel_rfl] using r6
 have g7:=(q 7 _ rfl).trans (am (show 7<xs.length by omega));obtain⟨J,u,uc,r7,_,wx,_⟩:=jE g7;obtain rfl:c7= .slice J u.length uc:=by simpa[show ac.cellsOf 35=1 from by kernel_rfl] using r7
 have g8:=(q 8 _ rfl).trans (am (show 8<xs.length by omega));obtain⟨ud,ue,ur,r8,_,yv,_⟩:=jE g8;obtain rfl:c8= .slice ud ue.length ur:=by simpa[show ac.cellsOf 35=1 from by kernel_rfl] using r8
 have g9:=(q 9 _ rfl).trans (am (show 9<xs.length by omega));obtain⟨uv,r9,_,_⟩:=ev dj g9;obtain rfl:c9= .int .i64 uv:=by simpa[show ac.cellsOf 3=1 from by kernel_rfl] using r9
 have xf:=(q 10 _ rfl).trans (am (show 10<xs.length by omega));obtain⟨ux,xj,_,_⟩:=ev dj xf;obtain rfl:vx= .int .i64 ux:=by simpa[show ac.cellsOf 3=1 from by kernel_rfl] using xj
 have xl:=(q 11 _ rfl).trans (am (show 11<xs.length by omega));obtain⟨v,m',_,_,_,xo,va⟩:=eS m5 xl;have yy:v.length=2:=xo;have p0:=(va 0 _ rfl).trans (am (show 0<v.length by omega));have p1:=(va 1 _ rfl).trans (am (show 1<v.length by omega));obtain⟨ln,s0,_,_⟩:=ev dj p0;obtain⟨cl,s1,_,_⟩:=ev dj p1;obtain rfl:wg= .int .i64 ln:=by simpa[show ac.cellsOf 3=1 from by kernel_rfl,show ac.cellsOf 40=2 from by kernel_rfl] using s0
 obtain rfl:wk= .int .i64 cl:=by simpa[show ac.cellsOf 3=1 from by kernel_rfl,show ac.cellsOf 40=2 from by kernel_rfl] using s1
 exact⟨⟨op,d,a,b,f,n,G,.slice J u.length uc,.slice ud ue.length ur,uv,ux,ln,cl,u⟩,rfl,⟨⟨_,_,rfl⟩,_,_,_,rfl⟩,_,_,rfl,wx⟩
structure Vr where
 ptr:nj
 tgt:aE
 cls:bp
def Vr.cells (v:Vr):da cd:=#[tU v.ptr,tM v.tgt,Z U v.cls]
theorem Cg {n:bx}{f:bm cd}{x:DataW H×bm od}(h:kp enc ac w base spare held n 34 f=tB x):∃v:Vr,v.cells.toList=f/\True:=by
 obtain⟨xs,m,_,_,q,uc,u⟩:=eS underlying34 h;have hc:ac.cellsOf 34=3:=by kernel_rfl
 have ux:xs.length=2:=uc;rw[hc] at q;obtain⟨c0,va,e0,ud⟩:=zU q;obtain⟨c1,vc,e1,ue⟩:=zU ud;obtain⟨c2,vd,e2,ur⟩:=zU ue;obtain rfl:=du ur;subst e2 e1 e0;have g0:=(u 0 _ rfl).trans (am (show 0<xs.length by omega));have g1:=(u 1 _ rfl).trans (am (show 1<xs.length by omega));obtain⟨d,m',_,_,_,uv,A⟩:=eS ey g0;have vf:d.length=2:=uv;have p0:=(A 0 _ rfl).trans (am (show 0<d.length by omega));have p1:=(A 1 _ rfl).trans (am (show 1<d.length by omega));obtain⟨D,s0,_⟩:=DataW.trod_bool ii p0;obtain⟨G,s1,_,_⟩:=lA im p1;obtain⟨J,s2,_,_⟩:=ev dj g1;have z1:ac.cellsOf 4=1:=by kernel_rfl
 have z2:ac.cellsOf 9=1:=by kernel_rfl
 have z3:ac.cellsOf 3=1:=by kernel_rfl
 have z4:ac.cellsOf 32=2:=by kernel_rfl
 obtain rfl:c0= .bool D:=by simpa[z1,z4] using s0
 obtain rfl:c1= .string G:=by simpa[z2,z4] using s1
 obtain rfl:c2= .int .i64 J:=by simpa[z3] using s2
 exact⟨⟨D,G,J⟩,rfl,trivial⟩
structure qp.inn (w:World)(c:qp):Prop where
 row:jL w w.heap.size c.insA c.ins
 args:∀x∈c.ins,x.args_in w
 len:c.ins.length<=dT
 vars:∃vs:bm Vr,vs.length=c.nvars/\aK Vr.cells 3 w w.heap.size c.varsA vs
 nvars:c.nvars<=dT
 nfrom:c.nfrom<=dT
 froms:∃fs:bm bp,fs.length=c.nfrom/\kI w c.fromA fs
end
theorem Ins.args_in.below {w w':World}{i:Ins}(h:i.args_in w)(d:bh w.heap.size w w'):i.args_in w':=by
 obtain⟨f,q,cap,u,v⟩:=h;refine⟨f,q,cap,u,λA=> ?_⟩;obtain⟨b,D,G,J,e3⟩:=aK.below v d (ce _) A;exact⟨b,D,G,bl J d.size,e3⟩
theorem aK.grow {α:Type}{cells:α->da cd}{d:bx}{w w':World}{f:eA Addr}{xs:bm α}(h:aK cells d w w.heap.size f xs)(q:bh w.heap.size w w'):aK cells d w' w'.heap.size f xs:=by
 intro u;obtain⟨b,v,A,D,G⟩:=h.below q (ce _) u;exact⟨b,v,A,bl D q.size,G⟩
theorem qp.inn.below {w w':World}{c:qp}(h:c.inn w)(d:bh w.heap.size w w'):c.inn w':=
 ⟨aK.grow (cells:=Ins.cells) h.row d,λx f=>(h.args x f).below d,h.len,let ⟨q,a,b⟩:=h.vars;⟨q,a,b.grow d⟩,h.nvars,h.nfrom,let ⟨u,a,b⟩:=h.froms;⟨u,a,aK.grow b d⟩⟩
end
abbrev Ty:=nj×aE
def bI:Ty:=(tG,lp)
structure Fd where
 nm:aE
 ptr:nj
 tgt:aE
 ln:bp
 cl:bp
def Fd.cells (f:Fd):da cd:=#[tM f.nm,tU f.ptr,tM f.tgt,Z U f.ln,Z U f.cl]
def Fd.ty (f:Fd):Ty:=(f.ptr,f.tgt)
def Vr.ty (v:Vr):Ty:=(v.ptr,v.tgt)
structure St where
 s:DZ
 fs:bm Fd
def St.cells (s:St):da cd:=s.s.cells
structure Fn where
 c:qp
 vs:bm Vr
 frm:bm bp
 mds:bm (bm bp)
def Fn.cells (f:Fn):da cd:=f.c.cells
def Fn.ret (f:Fn):Ty:=(f.c.rp,f.c.rto)
structure Mo where
 sA:eA Addr
 sC:bx
 fA:eA Addr
 fC:bx
 ss:bm St
 fs:bm Fn
def Mo.cells (m:Mo):da cd:=#[tP m.sA m.ss.length m.sC,tP m.fA m.fs.length m.fC]
structure Fn.inn (w:World)(f:Fn):Prop where
 code:f.c.inn w
 nm:f.c.nm.size<=dT
 nvars:f.c.nvars=f.vs.length
 vars:aK Vr.cells 3 w w.heap.size f.c.varsA f.vs
 nfrom:f.c.nfrom=f.frm.length
 frm:kI w f.c.fromA f.frm
 nmds:f.mds.length=f.c.ins.length
 mds:∀(k:bx)(i:Ins)(l:bm bp),f.c.ins[k]?=tB i->f.mds[k]?=tB l->∃ao cap,i.modeV= tP ao l.length cap/\kI w ao l
structure St.inn (w:World)(s:St):Prop where
 nf:s.s.nf=s.fs.length
 row:aK Fd.cells 5 w w.heap.size s.s.fA s.fs
 len:s.fs.length<=dT
 nm:s.s.nm.size<=dT
 fnm:∀f∈s.fs,f.nm.size<=dT
structure Mo.inn (w:World)(m:Mo):Prop where
 srow:aK St.cells 4 w w.heap.size m.sA m.ss
 frow:aK Fn.cells 8 w w.heap.size m.fA m.fs
 sin:∀s∈m.ss,s.inn w
 fin:∀f∈m.fs,f.inn w
 ns:m.ss.length<=dT
 nf:m.fs.length<=dT
theorem Fn.inn.below {w w':World}{f:Fn}(h:f.inn w)(d:bh w.heap.size w w'):f.inn w':=
 ⟨h.code.below d,h.nm,h.nvars,h.vars.grow d,h.nfrom,aK.grow h.frm d,h.nmds,λk i l q u=>by
  obtain⟨v,cap,A,D⟩:=h.mds k i l q u;exact⟨v,cap,A,aK.grow D d⟩⟩
theorem St.inn.below {w w':World}{s:St}(h:s.inn w)(d:bh w.heap.size w w'):s.inn w':=⟨h.nf,h.row.grow d,h.len,h.nm,h.fnm⟩
theorem Mo.inn.below {w w':World}{m:Mo}(h:m.inn w)(d:bh w.heap.size w w'):m.inn w':=
 ⟨h.srow.grow d,h.frow.grow d,λs q=>(h.sin s q).below d,λf u=>(h.fin f u).below d,h.ns,h.nf⟩
section
variable {P:km}{ops:da ke}{Q:Exit->Act->World->Prop}{md:gO}{S:World->Prop}{k:bx}
inductive jc (md:gO) (ops:da ke) (k:bx) (listed:da nj):bx->Prop
 |last {i:bx} {o:ke} {e:Edge}:listed[i]?=tB tG->ops[k]?=tB o->e∈o.after->fz md e=tE->e.on=i->jc md ops k listed i
 |step {i j:bx} {o:ke} {e:Edge}:listed[i]?=tB tG->ops[j]?=tB o->e∈o.after->fz md e=tE->e.on=i->jc md ops k listed j->jc md ops k listed i
theorem jc.un {listed:da nj}{i:bx}(h:jc md ops k listed i):listed[i]?=tB tG:=by cases h<;>assumption
theorem iW {listed:da nj}{i j:bx}{o:ke}{e:Edge}(h:listed[i]?=tB tG)(q:ops[j]?=tB o)(u:e∈o.after)(v:fz md e=tE)(A:e.on=i):j∉dd md ops listed:=by
 intro D;obtain⟨_,J,d,G⟩:=mem_ready.1 D;rw[q] at d;obtain rfl:=cD d;have f:=G e u v;rw[A] at f;simp[h] at f
theorem jc.notReady {listed:da nj}{i:bx}(h:jc md ops k listed i):k∉dd md ops listed:=by
 induction h with
 |last d f q u v=>exact iW d f q u v
 |step _ _ _ _ _ _ ih=>exact ih
theorem jc.set {listed:da nj}{i:bx}(h:jc md ops k listed i){j:bx}(D:j∈dd md ops listed)(A:j≠i):jc md ops k (listed.setIfInBounds j tE) i:=by
 induction h with
 |last d f q u v=>exact .last (by rw[jz A];exact d) f q u v
 |step d f q u v G ih=>exact .step (by rw[jz A];exact d) f q u v (ih (λe=>by subst e;exact iW d f q u v D))
def lQ (md:gO)(ops:da ke)(k:bx)(listed:da nj):bx->bx->nj
 |0,_=>tG
 |f+1,i=>(listed[i]?==tB tG)&&((ops[k]?).any (λo=>o.after.any λe=>fz md e&&e.on==i)||
   (ej ops.size).any λj=>(ops[j]?).any (λo=>o.after.any λe=>fz md e&&e.on==i)&&lQ md ops k listed f j)
theorem yQ {listed:da nj}:∀(f i:bx),lQ md ops k listed f i=tE->jc md ops k listed i
 |0,_,h=>by simp[lQ] at h
 |f+1,i,h=>by
  simp only[lQ,eN,hU,mN,kq,pZ,qr] at h;obtain⟨A,D⟩:=h;rcases D with⟨o,d,e,q,u,v⟩|⟨j,_,⟨o,d,e,q,u,v⟩,G⟩
  ·exact .last A d q u v
  ·exact .step A d q u v (yQ f j G)
end
section
variable {P:km}{ops:da ke}{md:gO}{C:World->Prop}{Q:Exit->Act->World->Prop}{k:bx}
def rG (P:km)(md:gO)(ops:da ke)(C:World->Prop)(Q:Exit->Act->World->Prop)(k:bx):bx->da nj->Act->Prop
 |0,_,_=>mb
 |fuel+1,listed,a=>(dd md ops listed=[]->mb)/\
  ∀i∈dd md ops listed,if i=k then(∀w,C w->wpOp P ops Q i (wpAny P md ops Q fuel (listed.setIfInBounds i tE)) a w) else qOp P ops C i (rG P md ops C Q k fuel (listed.setIfInBounds i tE)) a
theorem rH:∀(fuel:bx)(listed:da nj)(a:Act)(w:World),C w->rG P md ops C Q k fuel listed a->wpAny P md ops Q fuel listed a w
 |0,_,_,_,_,h=>h.elim
 |fuel+1,listed,a,w,f,h=>by
  refine⟨λh0=>(h.1 h0).elim,λi q=> ?_⟩;have d:=h.2 i q
  by_cases e:i=k
  ·rw[cR e] at d
   exact d w f
  ·rw[cE e] at d
   exact wpOp_of_qOp f (λu w' v A=>rH fuel _ u w' v A) d
theorem xg {i:bx}{f:ke}{v:cd}(hi:ops[i]?=tB f)(ud:∀(j:bx)(o:ke) u b,ops[j]?=tB o->o.op≠ .select u b):
  ∀(fuel:bx)(listed:da nj)(a:Act),
   (∀j d,ops[j]?=tB d->j≠i->listed.getD j tE=tG->(∀e∈d.after,fz md e=tE->e.on≠i)->f.apart ops d=tE)->
   i∈dd md ops listed->jc md ops k listed i->YieldsIn P ops C f v a->
   rG P md ops C Q k fuel (listed.setIfInBounds i tE) (a.put f.dst v)->rG P md ops C Q k (fuel+1) listed a:=by
 intro fuel
 induction fuel with
 |zero=>intro listed a _ _ _ _ H;exact H.elim
 |succ fuel ih=>
  intro listed a ue J uc hy H;refine⟨λh=>(by rw[h] at J;cases J),λj A=> ?_⟩;have D:j≠k:=λe=>by subst e;exact uc.notReady A
  rw[cE D]
  by_cases q:j=i
  ·subst q;exact hy.qOp hi H
  ·have h1:=H.2 j (nl A q)
   rw[cE D] at h1;obtain⟨ur,d,G,vh⟩:=mem_ready.1 A;have ux:∀e∈d.after,fz md e=tE->e.on≠i:=λe he hb va=>iW uc.un G he hb va A;have h2:=qOp_put G (ue j d G q ur ux) (λu b=>ud i f u b hi) (λu b=>ud j d u b G) hy h1;have vc:∀k ok,ops[k]?=tB ok->k≠i->(listed.setIfInBounds j tE).getD k tE=tG->
     (∀e∈ok.after,fz md e=tE->e.on≠i)->f.apart ops ok=tE:=λk ok hk vd uv vf=>by
    refine ue k ok hk vd ?_ vf
    by_cases D:j=k
    ·subst D;exact ur
    ·rw[getD_set_ne tE D] at uv;exact uv
   refine qOp_mono (λa' h3=>ih (listed.setIfInBounds j tE) a' vc (nl J (Ne.symm q)) (uc.set A q) h3.1 ?_) h2;rw[oX _ _ q];exact h3.2
def vX (md:gO)(ops:da ke)(i k:bx):nj:=
 (ej (k-i)).any λd=>(ops[i+1+d]?).any λo=>o.after.any λe=>fz md e&&e.on==i
theorem yR {listed:da nj}:∀(n i:bx),i+n=k->0<n->(∀j,i<=j->j<k->vX md ops j k=tE/\listed[j]?=tB tG)->jc md ops k listed i
 |0,_,_,h0,_=>fW h0 (Nat.lt_irrefl _)
 |n+1,i,hn,_,h=>by
  obtain⟨q,u⟩:=h i (ce _) (by omega);unfold vX at q;simp only[kq,jn,pZ,qr,eN,mN] at q;obtain⟨d,hd,o,f,e,v,A,D⟩:=q
  by_cases G:i+1+d=k
  ·rw[G] at f
   exact .last u f v A D
  ·exact .step u f v A D (leads_links_aux n (i+1+d) (by omega) (by omega) λj hj J=>h j (by omega) J)
where
 leads_links_aux {listed:da nj}:∀(m i:bx),i<k->k-i<=m->(∀j,i<=j->j<k->vX md ops j k=tE/\listed[j]?=tB tG)->jc md ops k listed i
  |0,i,q,u,_=>fW u (by omega)
  |m+1,i,q,u,h=>by
   obtain⟨h3,h4⟩:=h i (ce _) q;unfold vX at h3;simp only[kq,jn,pZ,qr,eN,mN] at h3;obtain⟨d,hd,o,f,e,v,A,D⟩:=h3
   by_cases G:i+1+d=k
   ·rw[G] at f
    exact .last h4 f v A D
   ·exact .step h4 f v A D (leads_links_aux m (i+1+d) (by omega) (by omega) λj hj J=>h j (by omega) J)
def lU (md:gO)(ops:da ke):bx->bx->da nj->nj
 |0,i,listed=>dd md ops listed==[i]
 |n+1,i,listed=>(dd md ops listed).contains i&&kB md ops listed i&&vX md ops i (i+n+1)&&listed[i]?==tB tG&&lU md ops n (i+1) (listed.setIfInBounds i tE)
theorem qw {md:gO}{ops:da ke}:∀(n i:bx)(listed:da nj),lU md ops n i listed=tE->∀j,i<=j->j<i+n->vX md ops j (i+n)=tE/\listed[j]?=tB tG
 |0,_,_,_,j,q,d=>fW d (by omega)
 |n+1,i,listed,h,j,q,d=>by
  simp only[lU,eN,mN] at h;obtain⟨⟨⟨⟨_,_⟩,u⟩,v⟩,A⟩:=h
  by_cases e:j=i
  ·subst e;exact⟨u,v⟩
  ·obtain⟨D,f⟩:=qw n (i+1) _ A j (by omega) (by omega)
   refine⟨by rw[show i+(n+1)=i+1+n from by omega];exact D, ?_⟩;rw[jz (λG=>e G.symm)] at f;exact f
def xh:bx->bx->da nj->da nj
 |0,i,listed=>listed.setIfInBounds i tE
 |n+1,i,listed=>xh n (i+1) (listed.setIfInBounds i tE)
theorem rJ {u:Act->Prop}(G:fi ops=tE){fuel:bx}:∀(l:bm ke)(i:bx)(listed:da nj)(a:Act),i+l.length=k->(∀j,j<l.length->l[j]?=ops[i+j]?)->
  lU md ops l.length i listed=tE->(∀a w,u a->C w->wpOp P ops Q k (wpAny P md ops Q fuel (xh l.length i listed)) a w)->
  rB P ops C u l a->rG P md ops C Q k (l.length+1+fuel) listed a
 |[],i,listed,a,f,_,d,A,h=>by
  have uc:i=k:=by simpa using f
  subst uc;simp only[mp,lU,mN] at d;rw[show([]:bm ke).length+1+fuel=fuel+1 from by simp;omega];refine⟨λh0=>(by rw[d] at h0;cases h0),λj D=> ?_⟩;rw[d] at D;obtain rfl:=cH.1 D;rw[cR rfl];intro w hw;exact A a w h hw
 |o::l,i,listed,a,f,J,d,A,h=>by
  have ud:=d;have h0:ops[i]?=tB o:=by have:=J 0 (by simp);simpa using this.symm
  simp only[fS,lU,eN] at d;obtain⟨⟨⟨⟨hr,hf⟩,_⟩,_⟩,ue⟩:=d;have hst:qOp P ops C i (rB P ops C u l) a:=by unfold qOp;simp only[h0];exact h
  obtain⟨v,hy,hK⟩:=yieldsIn_of_qOp h0 hst;have q:(o::l).length=l.length+1:=rfl;rw[show(o::l).length+1+fuel=(l.length+1+fuel)+1 from by rw[q];omega];refine xg h0 (lk G) _ listed a (mB h0 hf) (by simpa using hr) ?_ hy
   (rJ G l (i+1) _ _ (by rw[q] at f;omega) (λj D=>by have:=J (j+1) (by rw[q];omega);simpa[sB,Nat.add_comm 1 j] using this) ue A hK)
  refine yR (o::l).length i f (by rw[q];omega) λj h1 h2=> ?_;have:=qw _ _ _ ud j h1 (by omega);rw[f] at this;exact this
theorem yS {fuel:bx}{listed:da nj}{a:Act}{w:World}(l:bm ke)(i:bx)(q:fi ops=tE)(u:lU md ops l.length i listed=tE)(v:(ops.toList.drop i).take l.length=l)(C:World->Prop)(hC:C w)(d:da nj)
  (A:xh l.length i listed=d)
  (h:rB P ops C (λf=>∀w,C w->wpOp P ops Q (i+l.length) (wpAny P md ops Q fuel d) f w) l a):wpAny P md ops Q (l.length+1+fuel) listed a w:=by
 refine rH (k:=i+l.length) _ _ _ _ hC (rJ q l i listed a rfl (λj D=> ?_) u (λf w' G J=> ?_) h)
 ·have h1:l[j]?=((ops.toList.drop i).take l.length)[j]? :=by rw[v]
  rw[h1,pS,cR D,qv];simp
 ·rw[A];exact G w' J
theorem AR {listed:da nj}{a:Act}{w:World}(l:bm ke)(i:bx)(f:fi ops=tE)(q:Region.lexFrom md ops l.length i listed=tE)(u:ops.toList.drop i=l)(C:World->Prop)(hC:C w)
  (h:rB P ops C (λd=>∀w',C w'->Q .normal d w') l a):wpAny P md ops Q l.length listed a w:=by
 refine wpAny_of_quiet (Q:=λd=>∀w',C w'->Q .normal d w') (λ_ w' v h=>h w' v) _ _ _ _ hC (wpAnyQ_lex f l i listed a (λj=> ?_) q h);rw[<-u,qv];simp
section
variable {l:bm ke}
theorem qR {id:bx}{a:Act}{w:World}(n fuel:bx)(f:l.length=n+1+fuel)(q:P.follows .mixedOrders=tE)(u:fi l.toArray=tE)(v:lU .any l.toArray n 0 (mL (n+1+fuel) tG)=tE)(C:World->Prop)(hC:C w.drew)
  (h:rB P l.toArray C (λA=>∀w,C w->wpOp P l.toArray Q n (wpAny P .any l.toArray Q fuel (xh n 0 (mL (n+1+fuel) tG))) A w) (l.take n) a):(ti id l.toArray tE).wp P Q a w:=by
 refine wp_region_any q ?_;have d:(l.take n).length=n:=by rw[pp];omega
 have D:l.toArray.size=n+1+fuel:=by simpa using f
 rw[D];have:=yS (P:=P) (ops:=l.toArray) (md:= .any) (Q:=Q) (fuel:=fuel) (listed:=mL (n+1+fuel) tG) (a:=a) (w:=w.drew) (l.take n) 0 u (by rw[d];exact v) (by rw[d];simp) C hC _ rfl (by rw[d,cV];exact h);rw[d] at this;exact this
theorem aZ {listed:da nj}{a:Act}{w:World}{d:bx}(i:bx)(A:l.length=i+d)(q:fi l.toArray=tE)(u:Region.lexFrom md l.toArray d i listed=tE)(C:World->Prop)(hC:C w)
  (h:rB P l.toArray C (λv=>∀w',C w'->Q .normal v w') (l.drop i) a):wpAny P md l.toArray Q d listed a w:=by
 have f:(l.drop i).length=d:=by rw[List.length_drop];omega
 have:=AR (P:=P) (ops:=l.toArray) (md:=md) (Q:=Q) (listed:=listed) (a:=a) (w:=w) (l.drop i) i q (by rw[f];exact u) (by simp) C hC h;rw[f] at this;exact this
end
end
section
variable {P:km}{ops:da ke}{Q:Exit->Act->World->Prop}{md:gO}{S:World->Prop}{k:bx}
def dC (P:km)(md:gO)(ops:da ke)(Q:Exit->Act->World->Prop)(S:World->Prop)(k:bx):bx->da nj->Act->World->Prop
 |0,_,_,_=>mb
 |fuel+1,listed,a,w=>
  (dd md ops listed=[]->mb)/\
  ∀i∈dd md ops listed,wpOp P ops Q i (λd w'=>if i=k then wpAny P md ops Q fuel (listed.setIfInBounds i tE) d w' else S w'/\dC P md ops Q S k fuel (listed.setIfInBounds i tE) d w') a w
theorem eX:∀(fuel:bx)(listed:da nj)(a:Act)(w:World),dC P md ops Q S k fuel listed a w->wpAny P md ops Q fuel listed a w
 |0,_,_,_,h=>h.elim
 |fuel+1,_,_,_,h=>⟨λh0=>(h.1 h0).elim,λi f=>wpOp_mono (λq w' d=>by
   by_cases e:i=k
   ·rw[cR e] at d;exact d
   ·rw[cE e] at d;exact eX fuel _ q w' d.2) (h.2 i f)⟩
theorem xk {i:bx}{d:ke}{v:cd}(hi:ops[i]?=tB d)(ud:∀(j:bx)(o:ke) u b,ops[j]?=tB o->o.op≠ .select u b)
  (hQ:∀c a w,Q (.panic c) (a.put d.dst v) w->Q (.panic c) a w):
  ∀(fuel:bx)(listed:da nj)(a:Act)(w:World),
   (∀j f,ops[j]?=tB f->j≠i->listed.getD j tE=tG->(∀e∈f.after,fz md e=tE->e.on≠i)->d.apart ops f=tE)->
   i∈dd md ops listed->jc md ops k listed i->YieldsIf P ops S d v a->S w->
   dC P md ops Q S k fuel (listed.setIfInBounds i tE) (a.put d.dst v) w->dC P md ops Q S k (fuel+1) listed a w:=by
 intro fuel
 induction fuel with
 |zero=>intro listed a w _ _ _ _ _ H;exact H.elim
 |succ fuel ih=>
  intro listed a w ue D G hy hS H;have ux:i≠k:=λe=>by subst e;exact G.notReady D
  refine⟨λh=>(by rw[h] at D;cases D),λj A=> ?_⟩
  by_cases q:j=i
  ·subst q;exact hy.wpOp hi hS (by rw[cE ux];exact⟨hS,H⟩)
  ·have J:j≠k:=λe=>by subst e;exact G.notReady A
   have h1:=H.2 j (nl A q);simp only[cE J] at h1⊢;obtain⟨ur,f,uc,vi⟩:=mem_ready.1 A;have va:∀e∈f.after,fz md e=tE->e.on≠i:=λe he hb vc=>iW G.un uc he hb vc A;have h2:=wpOp_putIf uc (ue j f uc q ur va) (λu b=>ud i d u b hi) (λu b=>ud j f u b uc) hQ hy h1;have vd:∀k ok,ops[k]?=tB ok->k≠i->(listed.setIfInBounds j tE).getD k tE=tG->
     (∀e∈ok.after,fz md e=tE->e.on≠i)->d.apart ops ok=tE:=λk ok hk vf uv vh=>by
    refine ue k ok hk vf ?_ vh
    by_cases J:j=k
    ·subst J;exact ur
    ·rw[getD_set_ne tE J] at uv;exact uv
   refine wpOp_mono (λa' w' h3=>⟨h3.2.1,ih (listed.setIfInBounds j tE) a' w' vd (nl D (Ne.symm q)) (G.set A q) h3.1 h3.2.1 ?_⟩) h2;rw[oX _ _ q];exact h3.2.2
theorem lW {i:bx}{d:ke}{v:cd}{fuel:bx}{listed:da nj}{a:Act}{w:World}(f:ops[i]?=tB d)
  (q:fi ops=tE)(u:kB md ops listed i=tE)(A:(dd md ops listed).contains i=tE)(D:lQ md ops k listed ops.size i=tE)
  (G:∀c a w,Q (.panic c) (a.put d.dst v) w->Q (.panic c) a w)(J:YieldsIf P ops S d v a)(hS:S w)
  (h:dC P md ops Q S k fuel (listed.setIfInBounds i tE) (a.put d.dst v) w):dC P md ops Q S k (fuel+1) listed a w:=
 xk f (lk q) G fuel listed a w (mB f u) (by simpa using A) (yQ _ _ D) J hS h
theorem AU {i:bx}{o:ke}{fuel:bx}{listed:da nj}{a:Act}{w:World}(f:dd md ops listed=[i])(u:i≠k)(v:ops[i]?=tB o)
  (h:∀d:Act->World->Prop,(∀a w,S w->dC P md ops Q S k fuel (listed.setIfInBounds i tE) a w->d a w)->if eC o (kj ops a.tmps)=tE then lR P o a w d Q else d (a.put o.dst undef) w):
  dC P md ops Q S k (fuel+1) listed a w:=by
 refine⟨λh0=>(by rw[f] at h0;cases h0),λj q=> ?_⟩;rw[f] at q;obtain rfl:=cH.1 q;simp only[cE u];exact wpOp_step v (λd A=>h d (λa w D G=>A a w ⟨D,G⟩))
theorem D6 {o:ke}{fuel:bx}{listed:da nj}{a:Act}{w:World}(f:dd md ops listed=[k])(u:ops[k]?=tB o)
  (h:∀d:Act->World->Prop,(∀a w,wpAny P md ops Q fuel (listed.setIfInBounds k tE) a w->d a w)->if eC o (kj ops a.tmps)=tE then lR P o a w d Q else d (a.put o.dst undef) w):
  dC P md ops Q S k (fuel+1) listed a w:=by
 refine⟨λh0=>(by rw[f] at h0;cases h0),λj q=> ?_⟩;rw[f] at q;obtain rfl:=cH.1 q;simp only[rh];exact wpOp_step u (λd v=>h d v)
theorem ak {id:bx}{a:Act}{w:World}(k:bx)(S:World->Prop)(d:P.follows .mixedOrders=tE)
  (h:dC P .any ops Q S k ops.size (mL ops.size tG) a w.drew):(ti id ops tE).wp P Q a w:=
 wp_region_any d (eX _ _ _ _ h)
theorem qx {o:ke}{a:Act}(v:eC o (kj ops a.tmps)=tE)(f:gx)(x:Operand)(A:o.op= .load f x)
  (q:Addr)(D:a.eval x= tR (tB q))(h:da cd)(d:TypeDesc)(G:∀w,S w->∀j u,h.toList[j]?=tB u->w.cell? (q.add j)=tB u)
  (J:P.underlying f=tB d)(hd:(match d with| .struct _| .array _ _=>tE|_=>tG)=tE)(hi:(P.info? f).map (·.size)=tB h.size):YieldsIf P ops S o (tW h) a:=by
 refine Or.inl ⟨v,λw hS=> ?_⟩;unfold execOp;simp only[A,D,Instr.loadAt,Instr.sureAddr,ft,Sem.run_pure,mA,jb w q f h d (G w hS) J hd hi]
theorem zT {C:World->Prop}(i:bx){d:ke}{v:cd}{fuel:bx}{listed:da nj}{a:Act}{w:World}(q:ops[i]?=tB d)
  (hC:∀w,S w->C w)
  (h:dC P md ops Q S k fuel (listed.setIfInBounds i tE) (a.put d.dst v) w)
  (u:∀w,C w->(execOp a.eval d).run P w= .ok (.value v) w:=by intro w f;go_simp;try rfl)
  (f:eC d (kj ops a.tmps)=tE:=by rfl)
  (A:fi ops=tE:=by kernel_rfl)(D:kB md ops listed i=tE:=by kernel_rfl)(G:(dd md ops listed).contains i=tE:=by kernel_rfl)(J:lQ md ops k listed ops.size i=tE:=by kernel_rfl)
  (hQ:∀c a w,Q (.panic c) (a.put d.dst v) w->Q (.panic c) a w:=by exact λ_ _ _ h=>h)(hS:S w:=by assumption):dC P md ops Q S k (fuel+1) listed a w:=
 lW q A D G J hQ (.inl ⟨f,λw h=>u w (hC w h)⟩) hS h
theorem zN (i:bx){d:ke}{fuel:bx}{listed:da nj}{a:Act}{w:World}(f:ops[i]?=tB d)
  (h:dC P md ops Q S k fuel (listed.setIfInBounds i tE) (a.put d.dst undef) w)
  (q:eC d (kj ops a.tmps)=tG:=by rfl)
  (u:fi ops=tE:=by kernel_rfl)(v:kB md ops listed i=tE:=by kernel_rfl)(A:(dd md ops listed).contains i=tE:=by kernel_rfl)(D:lQ md ops k listed ops.size i=tE:=by kernel_rfl)
  (G:∀c a w,Q (.panic c) (a.put d.dst undef) w->Q (.panic c) a w:=by exact λ_ _ _ h=>h)(J:S w:=by assumption):dC P md ops Q S k (fuel+1) listed a w:=
 lW f u v A D G (.inr ⟨q,rfl⟩) J h
theorem zO (i:bx){o:ke}{fuel:bx}{listed:da nj}{a:Act}{w:World}(f:ops[i]?=tB o)
  (h:∀d:Act->World->Prop,(∀a w,S w->dC P md ops Q S k fuel (listed.setIfInBounds i tE) a w->d a w)->lR P o a w d Q)
  (q:eC o (kj ops a.tmps)=tE:=by rfl)(u:dd md ops listed=[i]:=by kernel_rfl)(v:i≠k:=by decide):
  dC P md ops Q S k (fuel+1) listed a w:=AU u v f λd A=>by rw[cR q];exact h d A
theorem zK {o:ke}{fuel:bx}{listed:da nj}{a:Act}{w:World}(f:ops[k]?=tB o)
  (h:∀d:Act->World->Prop,(∀a w,wpAny P md ops Q fuel (listed.setIfInBounds k tE) a w->d a w)->lR P o a w d Q)
  (q:eC o (kj ops a.tmps)=tE:=by rfl)(u:dd md ops listed=[k]:=by kernel_rfl):
  dC P md ops Q S k (fuel+1) listed a w:=D6 u f λd v=>by rw[cR q];exact h d v
theorem zL (i:bx){f:ke}{fuel:bx}{listed:da nj}{a:Act}{w:World}(D:ops[i]?=tB f)(v:gx){x:Operand}(A:Addr){q:da cd}{d:TypeDesc}
  (G:∀w,S w->∀j u,q.toList[j]?=tB u->w.cell? (A.add j)=tB u)(J:P.underlying v=tB d)
  (h:dC P md ops Q S k fuel (listed.setIfInBounds i tE) (a.put f.dst (tW q)) w)
  (ho:f.op= .load v x:=by rfl)(hx:a.eval x= tR (tB A):=by rfl)
  (hd:(match d with| .struct _| .array _ _=>tE|_=>tG)=tE:=by rfl)(hz:(P.info? v).map (·.size)=tB q.size:=by kernel_rfl)
  (hw:eC f (kj ops a.tmps)=tE:=by rfl)
  (hs:fi ops=tE:=by kernel_rfl)(hf:kB md ops listed i=tE:=by kernel_rfl)(hr:(dd md ops listed).contains i=tE:=by kernel_rfl)(hl:lQ md ops k listed ops.size i=tE:=by kernel_rfl)
  (hQ:∀c a w,Q (.panic c) (a.put f.dst (tW q)) w->Q (.panic c) a w:=by exact λ_ _ _ h=>h)(hS:S w:=by assumption):dC P md ops Q S k (fuel+1) listed a w:=
 lW D hs hf hr hl hQ (qx hw v x ho A hx q d G J hd hz) hS h
end
theorem aM {P:km}{fn:Func}{p u:Tmp}{d:gx}(h:fn.results=#[.cell p d,.tmp u])(tmps:da cd)(w:World)(g:bx)(t:gx)(f:da cd)(q:bx×bx)(v:da Field)
  (A:tmps.getD p undef= tR (tB ⟨g,0,tD⟩))(D:w.heap[g]?=tB (ua f t q))
  (G:P.underlying d=tB (.struct v))(J:(P.info? d).map (·.size)=tB f.size):
  (tz fn tmps).run P w= .ok (.tuple #[tW f,tmps.getD u undef]) w:=by
 rw[results_cell_tmp h,A];have e:=oe w g t d f q _ D G rfl J;simp only[asAddr,Sem.run_pure,mA,e]
theorem iw {P:km}{fn:Func}{p u:Tmp}{d:gx}(h:fn.results=#[.tmp u,.cell p d])(tmps:da cd)(w:World)(g:bx)(t:gx)(f:da cd)(q:bx×bx)(A:da Field)
  (v:tmps.getD p undef= tR (tB ⟨g,0,tD⟩))(D:w.heap[g]?=tB (ua f t q))
  (G:P.underlying d=tB (.struct A))(J:(P.info? d).map (·.size)=tB f.size):
  (tz fn tmps).run P w= .ok (.tuple #[tmps.getD u undef,tW f]) w:=by
 have e:=oe w g t d f q _ D G rfl J;simp only[tz,h];simp only[te] at v;simp[ft,fX,v,asAddr,e]
theorem dB {P:km}{fn:Func}{p u:Tmp}{d f:gx}(h:fn.results=#[.cell p d,.cell u f])(tmps:da cd)(w:World)(g A:bx)(t t2:gx)(q v:da cd)(D G:bx×bx)(fs ud:da Field)
  (J:tmps.getD p undef= tR (tB ⟨g,0,tD⟩))(hg:w.heap[g]?=tB (ua q t D))(uc:tmps.getD u undef= tR (tB ⟨A,0,tD⟩))(ue:w.heap[A]?=tB (ua v t2 G))
  (hu:P.underlying d=tB (.struct fs))(hi:(P.info? d).map (·.size)=tB q.size)(ur:P.underlying f=tB (.struct ud))(uv:(P.info? f).map (·.size)=tB v.size):
  (tz fn tmps).run P w= .ok (.tuple #[tW q,tW v]) w:=by
 have e:=oe w g t d q D _ hg hu rfl hi;have e2:=oe w A t2 f v G _ ue ur rfl uv;simp only[tz,h];simp only[te] at J uc;simp[ft,fX,J,uc,asAddr,e,e2]
theorem qy {N:bx}{w W:World}(h:bh N w W)(n:bx):bh N w (W.drewN n):=⟨h.os,h.tape,h.output,h.size,h.block⟩
theorem bv {W:World}{b:bx}{x y u v:cd}{t:gx}(h:W.heap[b]?=tB (ua #[x,y] t (0,0))):((W.setCell ⟨b,0,tD⟩ u).setCell ⟨b,1,tD⟩ v).heap[b]?=tB (ua #[u,v] t (0,0)):=by
 have d:=bk W b 0 _ _ u h;have f:=bk _ b 1 _ _ v d;simpa using f
theorem jd {W:World}{g:bx}{a b c d u0 u1 u2 u3:cd}{t:gx}(h:W.heap[g]?=tB (ua #[a,b,c,d] t (0,0))):
  ((((W.setCell ⟨g,0,tD⟩ u0).setCell ⟨g,1,tD⟩ u1).setCell ⟨g,2,tD⟩ u2).setCell ⟨g,3,tD⟩ u3).heap[g]?=tB (ua #[u0,u1,u2,u3] t (0,0)):=by
 have f:=bk W g 0 _ _ u0 h;have q:=bk _ g 1 _ _ u1 f;have u:=bk _ g 2 _ _ u2 q;have v:=bk _ g 3 _ _ u3 u;exact v
theorem rM {N B:bx}{w W:World}(h:bh N w W)(d:N<=B)(u0 u1 u2 u3:cd):bh N w ((((W.setCell ⟨B,0,tD⟩ u0).setCell ⟨B,1,tD⟩ u1).setCell ⟨B,2,tD⟩ u2).setCell ⟨B,3,tD⟩ u3):=
 (((h.setCell d _).setCell d _).setCell d _).setCell d _
theorem je {W:World}{g:bx}{a b c d e u0 u1 u2 u3 u4:cd}{t:gx}(h:W.heap[g]?=tB (ua #[a,b,c,d,e] t (0,0))):
  (((((W.setCell ⟨g,0,tD⟩ u0).setCell ⟨g,1,tD⟩ u1).setCell ⟨g,2,tD⟩ u2).setCell ⟨g,3,tD⟩ u3).setCell ⟨g,4,tD⟩ u4).heap[g]?=tB (ua #[u0,u1,u2,u3,u4] t (0,0)):=by
 have f:=bk W g 0 _ _ u0 h;have q:=bk _ g 1 _ _ u1 f;have u:=bk _ g 2 _ _ u2 q;have v:=bk _ g 3 _ _ u3 u;have A:=bk _ g 4 _ _ u4 v;exact A
theorem fP {N B:bx}{w W:World}(h:bh N w W)(d:N<=B)(u0 u1 u2 u3 u4:cd):bh N w (((((W.setCell ⟨B,0,tD⟩ u0).setCell ⟨B,1,tD⟩ u1).setCell ⟨B,2,tD⟩ u2).setCell ⟨B,3,tD⟩ u3).setCell ⟨B,4,tD⟩ u4):=
 ((((h.setCell d _).setCell d _).setCell d _).setCell d _).setCell d _
theorem rowAt {W:World}{g:bx}{d:da cd}{t:gx}(h:W.heap[g]?=tB (ua d t (0,0)))(k:bx){u:cd}(f:d[k]?=tB u):W.cell? ⟨g,k,tD⟩=tB u/\W.frozen? ⟨g,k,tD⟩=tG:=
 ⟨by rw[cc _ _ _ _ _ _ h];exact f,eq _ _ _ _ _ h⟩
theorem ae {W:World}{g:bx}{o:Obj}(h:W.heap[g]?=tB o):g<W.heap.size:=(bj.1 h).1
theorem fF {W:World}{g:bx}{a b c d e:cd}{t:gx}(h:W.heap[g]?=tB (ua #[a,b,c,d,e] t (0,0))):
  (W.cell? ⟨g,0,tD⟩=tB a/\W.cell? ⟨g,1,tD⟩=tB b/\W.cell? ⟨g,2,tD⟩=tB c/\W.cell? ⟨g,3,tD⟩=tB d/\W.cell? ⟨g,4,tD⟩=tB e)/\
  (W.frozen? ⟨g,0,tD⟩=tG/\W.frozen? ⟨g,1,tD⟩=tG/\W.frozen? ⟨g,2,tD⟩=tG/\W.frozen? ⟨g,3,tD⟩=tG/\W.frozen? ⟨g,4,tD⟩=tG)/\g<W.heap.size:=by
 refine⟨⟨?_, ?_, ?_, ?_, ?_⟩,⟨?_, ?_, ?_, ?_, ?_⟩,(bj.1 h).1⟩
 all_goals first|exact eq _ _ _ _ _ h|(rw[cc _ _ _ _ _ _ h];rfl)
theorem mY {W:World}{g:bx}{a b c d:cd}{t:gx}(h:W.heap[g]?=tB (ua #[a,b,c,d] t (0,0))):
  (W.cell? ⟨g,0,tD⟩=tB a/\W.cell? ⟨g,1,tD⟩=tB b/\W.cell? ⟨g,2,tD⟩=tB c/\W.cell? ⟨g,3,tD⟩=tB d)/\
  (W.frozen? ⟨g,0,tD⟩=tG/\W.frozen? ⟨g,1,tD⟩=tG/\W.frozen? ⟨g,2,tD⟩=tG/\W.frozen? ⟨g,3,tD⟩=tG)/\g<W.heap.size:=by
 refine⟨⟨?_, ?_, ?_, ?_⟩,⟨?_, ?_, ?_, ?_⟩,(bj.1 h).1⟩
 all_goals first|exact eq _ _ _ _ _ h|(rw[cc _ _ _ _ _ _ h];rfl)
theorem cB {W:World}{g:bx}{a b:cd}{t:gx}(h:W.heap[g]?=tB (ua #[a,b] t (0,0))):
  (W.cell? ⟨g,0,tD⟩=tB a/\W.cell? ⟨g,1,tD⟩=tB b)/\(W.frozen? ⟨g,0,tD⟩=tG/\W.frozen? ⟨g,1,tD⟩=tG)/\g<W.heap.size:=by
 refine⟨⟨?_, ?_⟩,⟨?_, ?_⟩,(bj.1 h).1⟩
 all_goals first|exact eq _ _ _ _ _ h|(rw[cc _ _ _ _ _ _ h];rfl)
theorem Hf {w:World}{b:bx}{d:gx}{x y:cd}(h:w.heap[b]?=tB (ua #[x,y] d (0,0))):w.cell? ⟨b,0,tD⟩=tB x/\w.cell? ⟨b,1,tD⟩=tB y:=⟨(rowAt h 0 rfl).1,(rowAt h 1 rfl).1⟩
theorem GH {w:World}{b:bx}{ty:gx}{d f q u v A D G J x9 uc ud ue:cd}(h:w.heap[b]?=tB (ua #[d,f,q,u,v,A,D,G,J,x9,uc,ud,ue] ty (0,0))):w.cell? ⟨b,0,tD⟩=tB d/\w.cell? ⟨b,1,tD⟩=tB f/\w.cell? ⟨b,2,tD⟩=tB q/\w.cell? ⟨b,3,tD⟩=tB u/\w.cell? ⟨b,4,tD⟩=tB v/\w.cell? ⟨b,5,tD⟩=tB A/\w.cell? ⟨b,6,tD⟩=tB D/\w.cell? ⟨b,7,tD⟩=tB G/\w.cell? ⟨b,8,tD⟩=tB J/\w.cell? ⟨b,9,tD⟩=tB x9/\w.cell? ⟨b,10,tD⟩=tB uc/\w.cell? ⟨b,11,tD⟩=tB ud/\w.cell? ⟨b,12,tD⟩=tB ue:=⟨(rowAt h 0 rfl).1,(rowAt h 1 rfl).1,(rowAt h 2 rfl).1,(rowAt h 3 rfl).1,(rowAt h 4 rfl).1,(rowAt h 5 rfl).1,(rowAt h 6 rfl).1,(rowAt h 7 rfl).1,(rowAt h 8 rfl).1,(rowAt h 9 rfl).1,(rowAt h 10 rfl).1,(rowAt h 11 rfl).1,(rowAt h 12 rfl).1⟩
theorem ah {g k:bx}{w w':World}(h:Ext (·=g) w w')(u:cd):Ext (·=g) w (w'.setCell ⟨g,k,tD⟩ u):=h.setCell (a:=⟨g,k,tD⟩) (.inl rfl) u
theorem gF {W:World}{g:bx}{A v u q h f d u0 u1 u2 u3 u4 u5 u6:cd}{t:gx}(D:W.heap[g]?=tB (ua #[A,v,u,q,h,f,d] t (0,0))):
  (((((((W.setCell ⟨g,0,tD⟩ u0).setCell ⟨g,1,tD⟩ u1).setCell ⟨g,2,tD⟩ u2).setCell ⟨g,3,tD⟩ u3).setCell ⟨g,4,tD⟩ u4).setCell ⟨g,5,tD⟩ u5).setCell ⟨g,6,tD⟩ u6).heap[g]?=tB (ua #[u0,u1,u2,u3,u4,u5,u6] t (0,0)):=by
 have h0:(W.setCell ⟨g,0,tD⟩ u0).heap[g]?=tB (ua #[u0,v,u,q,h,f,d] t (0,0)):=bk _ g 0 _ _ u0 D;have G:((W.setCell ⟨g,0,tD⟩ u0).setCell ⟨g,1,tD⟩ u1).heap[g]?=tB (ua #[u0,u1,u,q,h,f,d] t (0,0)):=bk _ g 1 _ _ u1 h0;have J:(((W.setCell ⟨g,0,tD⟩ u0).setCell ⟨g,1,tD⟩ u1).setCell ⟨g,2,tD⟩ u2).heap[g]?=tB (ua #[u0,u1,u2,q,h,f,d] t (0,0)):=bk _ g 2 _ _ u2 G;have h3:((((W.setCell ⟨g,0,tD⟩ u0).setCell ⟨g,1,tD⟩ u1).setCell ⟨g,2,tD⟩ u2).setCell ⟨g,3,tD⟩ u3).heap[g]?=tB (ua #[u0,u1,u2,u3,h,f,d] t (0,0)):=bk _ g 3 _ _ u3 J;have h4:(((((W.setCell ⟨g,0,tD⟩ u0).setCell ⟨g,1,tD⟩ u1).setCell ⟨g,2,tD⟩ u2).setCell ⟨g,3,tD⟩ u3).setCell ⟨g,4,tD⟩ u4).heap[g]?=tB (ua #[u0,u1,u2,u3,u4,f,d] t (0,0)):=bk _ g 4 _ _ u4 h3;have h5:((((((W.setCell ⟨g,0,tD⟩ u0).setCell ⟨g,1,tD⟩ u1).setCell ⟨g,2,tD⟩ u2).setCell ⟨g,3,tD⟩ u3).setCell ⟨g,4,tD⟩ u4).setCell ⟨g,5,tD⟩ u5).heap[g]?=tB (ua #[u0,u1,u2,u3,u4,u5,d] t (0,0)):=bk _ g 5 _ _ u5 h4;have h6:(((((((W.setCell ⟨g,0,tD⟩ u0).setCell ⟨g,1,tD⟩ u1).setCell ⟨g,2,tD⟩ u2).setCell ⟨g,3,tD⟩ u3).setCell ⟨g,4,tD⟩ u4).setCell ⟨g,5,tD⟩ u5).setCell ⟨g,6,tD⟩ u6).heap[g]?=tB (ua #[u0,u1,u2,u3,u4,u5,u6] t (0,0)):=bk _ g 6 _ _ u6 h5;exact h6
theorem cK (W:World)(g:bx)(u0 u1 u2 u3 u4 u5 u6:cd):Ext (·=g) W (((((((W.setCell ⟨g,0,tD⟩ u0).setCell ⟨g,1,tD⟩ u1).setCell ⟨g,2,tD⟩ u2).setCell ⟨g,3,tD⟩ u3).setCell ⟨g,4,tD⟩ u4).setCell ⟨g,5,tD⟩ u5).setCell ⟨g,6,tD⟩ u6):=by
 refine ah ?_ _;refine ah ?_ _;refine ah ?_ _;refine ah ?_ _;refine ah ?_ _;refine ah ?_ _;refine ah ?_ _;exact Ext.refl _ _
theorem dY {W:World}{g:bx}{f h q u v A D:cd}{t:gx}(d:W.heap[g]?=tB (ua #[f,h,q,u,v,A,D] t (0,0))):
  (W.cell? ⟨g,0,tD⟩=tB f/\W.cell? ⟨g,1,tD⟩=tB h/\W.cell? ⟨g,2,tD⟩=tB q/\W.cell? ⟨g,3,tD⟩=tB u/\W.cell? ⟨g,4,tD⟩=tB v/\W.cell? ⟨g,5,tD⟩=tB A/\W.cell? ⟨g,6,tD⟩=tB D)/\(W.frozen? ⟨g,0,tD⟩=tG/\W.frozen? ⟨g,1,tD⟩=tG/\W.frozen? ⟨g,2,tD⟩=tG/\W.frozen? ⟨g,3,tD⟩=tG/\W.frozen? ⟨g,4,tD⟩=tG/\W.frozen? ⟨g,5,tD⟩=tG/\W.frozen? ⟨g,6,tD⟩=tG)/\g<W.heap.size:=
 ⟨⟨(rowAt d 0 rfl).1,(rowAt d 1 rfl).1,(rowAt d 2 rfl).1,(rowAt d 3 rfl).1,(rowAt d 4 rfl).1,(rowAt d 5 rfl).1,(rowAt d 6 rfl).1⟩,⟨(rowAt d 0 rfl).2,(rowAt d 1 rfl).2,(rowAt d 2 rfl).2,(rowAt d 3 rfl).2,(rowAt d 4 rfl).2,(rowAt d 5 rfl).2,(rowAt d 6 rfl).2⟩,ae d⟩
theorem lX {W:World}{g:bx}{G D A v u q h f d u0 u1 u2 u3 u4 u5 u6 u7 u8:cd}{t:gx}(J:W.heap[g]?=tB (ua #[G,D,A,v,u,q,h,f,d] t (0,0))):
  (((((((((W.setCell ⟨g,0,tD⟩ u0).setCell ⟨g,1,tD⟩ u1).setCell ⟨g,2,tD⟩ u2).setCell ⟨g,3,tD⟩ u3).setCell ⟨g,4,tD⟩ u4).setCell ⟨g,5,tD⟩ u5).setCell ⟨g,6,tD⟩ u6).setCell ⟨g,7,tD⟩ u7).setCell ⟨g,8,tD⟩ u8).heap[g]?=tB (ua #[u0,u1,u2,u3,u4,u5,u6,u7,u8] t (0,0)):=by
 have h0:(W.setCell ⟨g,0,tD⟩ u0).heap[g]?=tB (ua #[u0,D,A,v,u,q,h,f,d] t (0,0)):=bk _ g 0 _ _ u0 J;have h1:((W.setCell ⟨g,0,tD⟩ u0).setCell ⟨g,1,tD⟩ u1).heap[g]?=tB (ua #[u0,u1,A,v,u,q,h,f,d] t (0,0)):=bk _ g 1 _ _ u1 h0;have h2:(((W.setCell ⟨g,0,tD⟩ u0).setCell ⟨g,1,tD⟩ u1).setCell ⟨g,2,tD⟩ u2).heap[g]?=tB (ua #[u0,u1,u2,v,u,q,h,f,d] t (0,0)):=bk _ g 2 _ _ u2 h1;have h3:((((W.setCell ⟨g,0,tD⟩ u0).setCell ⟨g,1,tD⟩ u1).setCell ⟨g,2,tD⟩ u2).setCell ⟨g,3,tD⟩ u3).heap[g]?=tB (ua #[u0,u1,u2,u3,u,q,h,f,d] t (0,0)):=bk _ g 3 _ _ u3 h2;have h4:(((((W.setCell ⟨g,0,tD⟩ u0).setCell ⟨g,1,tD⟩ u1).setCell ⟨g,2,tD⟩ u2).setCell ⟨g,3,tD⟩ u3).setCell ⟨g,4,tD⟩ u4).heap[g]?=tB (ua #[u0,u1,u2,u3,u4,q,h,f,d] t (0,0)):=bk _ g 4 _ _ u4 h3;have h5:((((((W.setCell ⟨g,0,tD⟩ u0).setCell ⟨g,1,tD⟩ u1).setCell ⟨g,2,tD⟩ u2).setCell ⟨g,3,tD⟩ u3).setCell ⟨g,4,tD⟩ u4).setCell ⟨g,5,tD⟩ u5).heap[g]?=tB (ua #[u0,u1,u2,u3,u4,u5,h,f,d] t (0,0)):=bk _ g 5 _ _ u5 h4;have h6:(((((((W.setCell ⟨g,0,tD⟩ u0).setCell ⟨g,1,tD⟩ u1).setCell ⟨g,2,tD⟩ u2).setCell ⟨g,3,tD⟩ u3).setCell ⟨g,4,tD⟩ u4).setCell ⟨g,5,tD⟩ u5).setCell ⟨g,6,tD⟩ u6).heap[g]?=tB (ua #[u0,u1,u2,u3,u4,u5,u6,f,d] t (0,0)):=bk _ g 6 _ _ u6 h5;have h7:((((((((W.setCell ⟨g,0,tD⟩ u0).setCell ⟨g,1,tD⟩ u1).setCell ⟨g,2,tD⟩ u2).setCell ⟨g,3,tD⟩ u3).setCell ⟨g,4,tD⟩ u4).setCell ⟨g,5,tD⟩ u5).setCell ⟨g,6,tD⟩ u6).setCell ⟨g,7,tD⟩ u7).heap[g]?=tB (ua #[u0,u1,u2,u3,u4,u5,u6,u7,d] t (0,0)):=bk _ g 7 _ _ u7 h6;have h8:(((((((((W.setCell ⟨g,0,tD⟩ u0).setCell ⟨g,1,tD⟩ u1).setCell ⟨g,2,tD⟩ u2).setCell ⟨g,3,tD⟩ u3).setCell ⟨g,4,tD⟩ u4).setCell ⟨g,5,tD⟩ u5).setCell ⟨g,6,tD⟩ u6).setCell ⟨g,7,tD⟩ u7).setCell ⟨g,8,tD⟩ u8).heap[g]?=tB (ua #[u0,u1,u2,u3,u4,u5,u6,u7,u8] t (0,0)):=bk _ g 8 _ _ u8 h7;exact h8
theorem lY (W:World)(g:bx)(u0 u1 u2 u3 u4 u5 u6 u7 u8:cd):Ext (·=g) W (((((((((W.setCell ⟨g,0,tD⟩ u0).setCell ⟨g,1,tD⟩ u1).setCell ⟨g,2,tD⟩ u2).setCell ⟨g,3,tD⟩ u3).setCell ⟨g,4,tD⟩ u4).setCell ⟨g,5,tD⟩ u5).setCell ⟨g,6,tD⟩ u6).setCell ⟨g,7,tD⟩ u7).setCell ⟨g,8,tD⟩ u8):=by
 refine ah ?_ _;refine ah ?_ _;refine ah ?_ _;refine ah ?_ _;refine ah ?_ _;refine ah ?_ _;refine ah ?_ _;refine ah ?_ _;refine ah ?_ _;exact Ext.refl _ _
theorem fQ {W:World}{g:bx}{f h q u v A D G J:cd}{t:gx}(d:W.heap[g]?=tB (ua #[f,h,q,u,v,A,D,G,J] t (0,0))):
  (W.cell? ⟨g,0,tD⟩=tB f/\W.cell? ⟨g,1,tD⟩=tB h/\W.cell? ⟨g,2,tD⟩=tB q/\W.cell? ⟨g,3,tD⟩=tB u/\W.cell? ⟨g,4,tD⟩=tB v/\W.cell? ⟨g,5,tD⟩=tB A/\W.cell? ⟨g,6,tD⟩=tB D/\W.cell? ⟨g,7,tD⟩=tB G/\W.cell? ⟨g,8,tD⟩=tB J)/\(W.frozen? ⟨g,0,tD⟩=tG/\W.frozen? ⟨g,1,tD⟩=tG/\W.frozen? ⟨g,2,tD⟩=tG/\W.frozen? ⟨g,3,tD⟩=tG/\W.frozen? ⟨g,4,tD⟩=tG/\W.frozen? ⟨g,5,tD⟩=tG/\W.frozen? ⟨g,6,tD⟩=tG/\W.frozen? ⟨g,7,tD⟩=tG/\W.frozen? ⟨g,8,tD⟩=tG)/\g<W.heap.size:=
 ⟨⟨(rowAt d 0 rfl).1,(rowAt d 1 rfl).1,(rowAt d 2 rfl).1,(rowAt d 3 rfl).1,(rowAt d 4 rfl).1,(rowAt d 5 rfl).1,(rowAt d 6 rfl).1,(rowAt d 7 rfl).1,(rowAt d 8 rfl).1⟩,⟨(rowAt d 0 rfl).2,(rowAt d 1 rfl).2,(rowAt d 2 rfl).2,(rowAt d 3 rfl).2,(rowAt d 4 rfl).2,(rowAt d 5 rfl).2,(rowAt d 6 rfl).2,(rowAt d 7 rfl).2,(rowAt d 8 rfl).2⟩,ae d⟩
section
variable {P:km}{ops:da ke}{Q:Exit->Act->World->Prop}{md:gO}{S:World->Prop}{k:bx}
theorem qz {i j:bx}{f h:ke}{fuel:bx}{listed:da nj}{a:Act}{w:World}(D:dd md ops listed=[i,j])(G:i≠k)(J:j≠k)(uc:ops[i]?=tB f)(ud:ops[j]?=tB h)
  (hi:∀d:Act->World->Prop,(∀a w,S w->dC P md ops Q S k fuel (listed.setIfInBounds i tE) a w->d a w)->if eC f (kj ops a.tmps)=tE then lR P f a w d Q else d (a.put f.dst undef) w)
  (hj:∀d:Act->World->Prop,(∀a w,S w->dC P md ops Q S k fuel (listed.setIfInBounds j tE) a w->d a w)->if eC h (kj ops a.tmps)=tE then lR P h a w d Q else d (a.put h.dst undef) w):
  dC P md ops Q S k (fuel+1) listed a w:=by
 refine⟨λh0=>(by rw[D] at h0;cases h0),λz q=> ?_⟩;rw[D] at q;rcases fy.1 q with rfl|q
 ·simp only[cE G]
  exact wpOp_step uc (λd u=>hi d (λa w v A=>u a w ⟨v,A⟩))
 ·obtain rfl:=cH.1 q
  simp only[cE J];exact wpOp_step ud (λd u=>hj d (λa w v A=>u a w ⟨v,A⟩))
end
structure BW (W:World) where
 w:World
 h:bh W.heap.size W w
instance {W:World}:Inhabited (BW W):=⟨⟨W,aq _ _⟩⟩
theorem nO {P:km}{id:bx}{Q:Exit->Act->World->Prop}{a:Act}{W:World}{l:bm ke}(d:P.follows .mixedOrders=tE)(f:Region.lexB .any l.toArray=tE)
  (h:rB P l.toArray (λw'=>∃p:BW W,w'=p.w) (λq=>∀w',(∃p:BW W,w'=p.w)->Q .normal q w') l a):(ti id l.toArray tE).wp P Q a W:=
 wp_region_quiet (C:=λw'=>∃p:BW W,w'=p.w) d f ⟨⟨W.drew,(aq _ _).drew⟩,rfl⟩ (by simpa using h)
theorem zQ {P:km}{id:bx}{Q:Exit->Act->World->Prop}{a:Act}{W:World}{l:bm ke}
  (h:rB P l.toArray (λw'=>∃p:BW W,w'=p.w) (λd=>∀w',(∃p:BW W,w'=p.w)->Q .normal d w') l a)
  (f:P.follows .mixedOrders=tE:=by kernel_rfl)(q:Region.lexB .any l.toArray=tE:=by kernel_rfl):(ti id l.toArray tE).wp P Q a W:=
 nO f q h
theorem aW {P:km}{f:FuncId}{args:da cd}{W:World}{p:BW W}{v:cd}(h:gd P f args p.w λe w'=>e= ub v/\bh p.w.heap.size p.w w'):
  gd P f args p.w λe w''=>e= ub v/\∃q:BW W,w''=q.w:=
 h.mono λ_ w' ⟨d,hb⟩=>⟨d,⟨w',p.h.trans (hb.mono p.h.size)⟩,rfl⟩
theorem jF {P:km}{f:FuncId}{args:da cd}{W:World}{p:BW W}{v:cd}(h:gd P f args p.w λe w'=>e= ub v/\p.w=w'):
  gd P f args p.w λe w''=>e= ub v/\∃q:BW W,w''=q.w:=
 h.mono λ_ _ ⟨d,hb⟩=>⟨d,p,hb.symm⟩
theorem run_append_nil {P:km}(w:World)(base:bx)(t h e:gx)(i:TypeInfo)(size:bx)(d:P.underlying t=tB (.slice e))(f:P.info? e=tB i)
  (v:cd)(n:bx)(xs:bm cd)(q:w.ownsRow base e size v n xs)(c:bx):(jp #[t,t] h #[v,tP tD 0 c]).run P w= .ok v w:=by
 rcases q.2 with⟨rfl,rfl⟩|⟨g,cap,cur,rfl,_,_,u,_⟩
 ·simp[jp,fN d,sizeOf,typeInfo,f,pB,m7]
 ·simp[jp,fN d,sizeOf,typeInfo,f,pB,m7,u,dr]
theorem jG {P:km}{w:World}{ops:da ke}{rest:bm ke}{o:ke}{a:Act}{Q:Exit->Act->World->Prop}(uc:o.guard=tD)(s x:Operand)(t:gx)
  (ho:o.op= .call {callee:= .builtin .append,args:=#[s,x],argTypes:=#[t,t]})(base:bx)(e:gx)(i:TypeInfo)(z:cd)(size py:bx)(ht:P.underlying t=tB (.slice e))(hi:P.info? e=tB i)(hz:i.zero=tB z)
  (ud:i.size=size)(ue:i.bytes=py)(ur:z.cells.size=size)(uv:0<size)
  (v:cd)(n:bx)(xs:bm cd)(hs:a.eval s=v)(J:w.ownsRow base e size v n xs)
  (q:eA Addr)(m c:bx)(f:bm cd)(hx:a.eval x= tP q m c)(hl:f.length=m*size)(ux:q=tD->m=0)(va:∀A,q=tB A->∀j u,f[j]?=tB u->w.cell? (A.add j)=tB u)(h1:∀u∈f,u.oneCell'=tE)
  (vc:n+m<=dT)(vd:(n+m)*py<=140737488355328)(vf:base<=w.heap.size)
  (h:∀d w',w'.ownsRow base e size d (n+m) (xs++f)->w.grownBy w' v.ownBlock->(∀k,d.ownBlock=tB k->v.ownBlock=tB k\/w.heap.size<=k)->sL P ops Q rest (a.put o.dst d) w'):sL P ops Q (o::rest) a w:=by
 refine wpList_plain uc λK hK=> ?_;have vh:∃d w',(jp #[t,t] o.type #[v,tP q m c]).run P w= .ok d w'/\w'.ownsRow base e size d (n+m) (xs++f)/\w.grownBy w' v.ownBlock/\(∀k,d.ownBlock=tB k->v.ownBlock=tB k\/w.heap.size<=k):=by
  cases q with
  |none=>
   obtain rfl:=ux rfl;have hn:f=[]:=du (by omega);subst hn;exact⟨v,w,run_append_nil w base t o.type e i size ht hi v n xs J c,by simpa using J,World.grownBy.refl w _,λk D=> .inl D⟩
  |some A=>
   obtain⟨d,w',r1,r2,r3,_,G⟩:=run_append_own_at w base t o.type e i z size py ht hi hz ud ue ur uv v n xs J A m c f hl (va A rfl) h1 vc vd vf;refine⟨d,w',r1,r2,r3,λk D=> ?_⟩;rcases G with G|G
   ·exact .inl (by rw[<-G];exact D)
   ·right;rw[G] at D;simp at D;omega
 obtain⟨d,w',r1,r2,r3,r4⟩:=vh;unfold lR;simp[execOp,ho,resolve,invoke,builtin,hs,hx,r1,fX];exact hK _ _ (h _ _ r2 r3 r4)
theorem jM (w:World)(e:gx)(size base:bx)(d:base<=w.heap.size):(w.alloc (ua #[] e)).ownsRow base e size (tP (tB ⟨w.heap.size,0,tD⟩) 0 0) 0 []:=
 World.ownsRow_made w #[] 0 d (by unfold dT;omega) (by simp)
end Go.Proofs.YtjomgckjhcfbgaaGreat
