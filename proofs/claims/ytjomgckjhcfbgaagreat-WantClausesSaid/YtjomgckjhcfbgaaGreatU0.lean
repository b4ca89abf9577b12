/- Walks. -/
import Derived.Test.YtjomgckjhcfbgaaGreatProg
import Derived.WalkKit
import Derived.WalkLawsBesides
import Derived.WalkSpells
import Derived.Lib.Hide
import Derived.Laws.CopyOwn
import Derived.Deep.QuietTactic
import Derived.BigQuiet
import Derived.Maps.AppendAt
import Derived.RangeFuncNested
import Derived.RangeFuncBound
import Derived.RangeFuncCalls
import Derived.RangeFuncLeaves
import Derived.Shelf.Abstract
import Derived.OwnWalkIn
import Derived.TacticsInMore
import Derived.LoopNIn
import Derived.LoopIn
import Derived.Deep.AppendLies
import Derived.Deep.LoopGhost
import Derived.Deep.RegionHeld3
import Derived.Deep.DeepCutAuto
import Derived.RegionTactic
import Derived.Laws.OwnMore
import Derived.Laws.IdiomCopy
import Derived.WalkMore
import Derived.Deep.Slices
import Derived.Carry
import Derived.OrdersHeld
import Derived.Deep.RegionHeldLaw
import Derived.Deep.Quiet
import Derived.Laws.ResultCell
import Derived.Deep.WholeRow
set_option maxRecDepth 100000
set_option maxHeartbeats 64000000
set_option linter.all false
namespace Go.Proofs.YtjomgckjhcfbgaaGreat
open Go.RowKit
open Go.Proofs.Tryz renaming prog→am,underlying42→cD,underlying3→dl,underlying32→eM,underlying35→gb,underlying9→iv,underlying40→nh,underlying4→nj
open _root_.List renaming getElem?_eq_getElem→ap,getElem?_eq_some_iff→bl,mem_of_getElem?→cd,take_length→cR,mem_singleton→cU,mem_append→cX,eq_nil_of_length_eq_zero→dr,range→du,length_map→dy,length_take→ee,length_cons→eV,mem_map→gi,mem_filter→gC,getElem?_append_right→hZ,mem_cons_of_mem→ie,take_add_one→ju,foldl_append→jx,any_eq_true→kh,replicate→km,length_pos_iff→ms,getElem?_take→mz,map_cons→mA,getElem?_append_left→mB,length_nil→mC,mem_range→oc,map_nil→pm,prefix_rfl→pN,exists_cons_of_length_eq_add_one→qk,getElem?_drop→re,length_filter_le→td,mem_iff_getElem?→te,nodup_cons→ti
open Go.RowKit.Below renaming refl→aq,heap_alloc→cJ,heap_setCell→dg
open _root_ renaming Int→aw,Nat→bh,List→bj,ByteArray→bm,if_neg→bx,Option→cG,if_pos→cI,Array→eA,absurd→fL,if_true→lj,False→me,Bool→mm,decide_eq_true_eq→oE,beq_iff_eq→tt
open Go.RowKit renaming Below→aE,Hid→cj,intOf→de
open Go renaming heap_setCell_same→bk,cell_of_row→bw,Value→cA,frozen_of_row→ei,maxLen→eC,Addr→fS,Calls→ge,TypeId→gt,heap_alloc2_new→jp,run_underlying→j9,heap_alloc2_old→kp,Program→lr,Oper→mS,MemPlace→n9,run_loadVar_row→oy,yielded→pk,wpList→pZ,wpIn_wide→rv,wpQuiet→rx,wpAny→sy,results→th,wpList_plain→tr,Operand→tE
open _root_.Array renaming getElem?_eq_some_iff→br,getElem?_eq_none→em,replicate→eI,getElem?_setIfInBounds→gd,ext_getElem?→gS,getElem?_setIfInBounds_ne→mL,any_eq_true'→qv,getD_eq_getD_getElem?→tj
open _root_.Nat renaming le_refl→cg,lt_of_lt_of_le→cH,zero_add→cL,zero_le→cN,le_trans→eJ,add_zero→ki,add_comm→rl
open _root_.Option.some renaming inj→cE
open Go.Addr renaming add_lit→cY
open Go.DataW renaming trod_int→eE,trod_struct→ft,trod→kO,trod_string→mp
open Go.Value renaming int→eS,string→tS,slice→tU,pointer→tW,bool→ua,agg→ub,int→Z
open _root_.Int renaming toNat_natCast→eW
open Go.Region renaming ready→fg,noSelect→gw,wanted→gx,binds→gO,Mode→i8,free→n3
open _root_.Bool renaming and_eq_true→fj,or_eq_true→js,true→tP,false→tR
open Go.Value.slice renaming injEq→fm
open Go.Sem renaming run_bind→fX,run_pure→sn
open Go.Fence renaming wide→i7
open _root_.ByteArray renaming empty→lO
open Go.Result renaming andThen_ok→mu,andThen→mT
open Go.Oper renaming wp→nd
open _root_.Option renaming any_eq_true→qr,some→tG,none→tM
open Go.Builtin renaming zeroCells→qu
open Go.Obj renaming cells→uc
open Go.Ending renaming returned→ud
open Go.IntKind renaming i64→U
open Tryz
theorem fe:(am.info? 3).map (λi=>(i.zero,i.size,i.bytes))=tG (tG (Z U 0),1,8):=by kernel_rfl
theorem vW:(am.info? 4).map (λi=>(i.zero,i.size,i.bytes))=tG (tG (ua tR),1,1):=by kernel_rfl
structure Ext (M:bh->Prop)(w w':World):Prop where
 os:w'.os=w.os
 tape:w'.tape=w.tape
 output:w'.output=w.output
 size:w.heap.size<=w'.heap.size
 block:∀k,k<w.heap.size->¬M k->w'.heap[k]?=w.heap[k]?
def aL (w:World)(base:bh)(v:cA)(xs:bj aw):Prop:=w.ownsRow base 3 1 v xs.length (xs.map (eS .i64))
theorem aL.lit1 {w:World}{base B:bh}{x:aw}(d:B=w.heap.size)(h:base<=B):aL (w.alloc (uc #[Z U x] 3)) base (tU (tG ⟨B,0,tM⟩) 1 1) [x]:=by
 subst d;exact World.ownsRow_lit w #[Z U x] 1 h (by decide) rfl
theorem aL.lit2 {w:World}{base B:bh}{x y:aw}(d:B=w.heap.size)(h:base<=B):aL (w.alloc (uc #[Z U x,Z U y] 3)) base (tU (tG ⟨B,0,tM⟩) 2 2) [x,y]:=by
 subst d;exact World.ownsRow_lit w #[Z U x,Z U y] 2 h (by decide) rfl
theorem aL.nil (w:World)(base:bh):aL w base (tU tM 0 0) []:=World.ownsRow_nil _ _ _ _
theorem aL.mono {w:World}{base base':bh}{v:cA}{xs:bj aw}(h:aL w base v xs)(j:base'<=base):aL w base' v xs:=by
 refine⟨h.1, ?_⟩;rcases h.2 with h|⟨g,cap,d,e,o,f⟩
 ·exact .inl h
 ·exact .inr ⟨g,cap,d,e,by omega,f⟩
theorem aL.shape {w:World}{base n cap:bh}{ao:cG fS}{xs:bj aw}(h:aL w base (tU ao n cap) xs)(v:0<xs.length):
  ∃g,ao=tG ⟨g,0,tM⟩/\base<=g/\g<w.heap.size/\∀(k:bh)(z:aw),xs[k]?=tG z->w.cell? ⟨g,k,tM⟩=tG (Z U z):=by
 rcases h.2 with⟨d,f⟩|⟨g,x,j,d,f,o,y,A,E,t⟩
 ·omega
 ·have u:ao=tG ⟨g,0,tM⟩:=by simp only[fm] at d;exact d.1
  refine⟨g,u,f,(br.1 o).1,λk z q=> ?_⟩;rw[bw w g k j _ _ o];have G:k<xs.length:=(bl.1 q).1;have e:(j.toList.take (xs.length*1))[k]?=tG (Z U z):=by rw[t];simp[q]
  rw[mz,cI (by omega)] at e;simpa using e
theorem mW {w:World}{base:bh}{e:gt}{size:bh}{v:cA}{n:bh}{xs:bj cA}(m:bh)(h:w.ownsRow base e size v n xs):(w.drewN m).ownsRow base e size v n xs:=h
theorem aL.app {w:World}{base:bh}{v:cA}{xs:bj aw}{z:aw}(h:w.ownsRow base 3 1 v (xs.length+1) (xs.map (eS .i64)++[Z U z])):aL w base v (xs++[z]):=by
 unfold aL;simpa using h
theorem below_grow {B:bh}{a w w':World}{v:cA}{e:gt}{size n:bh}{xs:bj cA}{o:Obj}(h:aE B a w)(d:B<=w.heap.size)(f:w.ownsRow B e size v n xs)(g:(w.alloc o).grownBy w' v.ownBlock):aE B a w':=
 (h.alloc d o).grown g (by simp;omega) (λk j=>(f.lt k j).1)
theorem aL.isSlice {w:World}{base:bh}{v:cA}{xs:bj aw}(h:aL w base v xs):∃ao cap,v= tU ao xs.length cap:=by
 rcases h.2 with⟨d,e⟩|⟨g,cap,f,d,_⟩
 ·exact⟨tM,0,by rw[e];exact d⟩
 ·exact⟨_,_,d⟩
theorem aH {α:Type}{xs:bj α}{k:bh}{z:α}(h:xs[k]?=tG z):xs.take (k+1)=xs.take k++[z]:=by
 rw[ju,h];rfl
structure Ins where
 op:aw
 d:aw
 a:aw
 b:aw
 f:aw
 n:aw
 sign:bm
 argsV:cA
 modeV:cA
 tI:aw
 els:aw
 ln:aw
 cl:aw
 args:bj aw
def Ins.cells (i:Ins):eA cA:=#[Z U i.op,Z U i.d,Z U i.a,Z U i.b,Z U i.f,Z U i.n,tS i.sign,i.argsV,i.modeV,Z U i.tI,Z U i.els,Z U i.ln,Z U i.cl]
def fJ (i:Ins)(at_:aw):bj aw:=
 if i.op=16 then[i.tI] else if i.op=17 then(if i.tI=i.els then[i.tI] else[i.tI,i.els]) else if i.op=18 then[] else[at_+1]
def fK (w:World)(xs:bj aw)(e:Ending)(w':World):Prop:=
 ∃ao cap,e= ud (tU ao xs.length cap)/\aL w' w.heap.size (tU ao xs.length cap) xs/\aE w.heap.size w w'
theorem ownsRow_below {w w':World}{base:bh}{e:gt}{size:bh}{v:cA}{n:bh}{xs:bj cA}(h:w.ownsRow base e size v n xs)(f:aE w.heap.size w w'):w'.ownsRow base e size v n xs:=by
 refine⟨h.1, ?_⟩;rcases h.2 with j|⟨g,cap,o,q,t,d,u⟩
 ·exact .inl j
 ·exact .inr ⟨g,cap,o,q,t,(f.block g (br.1 d).1).trans d,u⟩
theorem gD (w:World)(d:bj cA)(t:gt):∀j u,d[j]?=tG u->(w.alloc (uc d.toArray t)).cell? ((⟨w.heap.size,0,tM⟩:fS).add j)=tG u:=by
 intro j u h;rw[cY,cL,World.cell?_alloc_new];simpa using h
theorem DY {P:lr}(w:World)(t q e:gt)(i:TypeInfo)(z:cA)(v:P.underlying t=tG (.slice e))(hi:P.info? e=tG i)(x:i.zero=tG z)(y:z.cells=#[z])(A:z.oneCell'=tP)
  (g d n cap:bh)(f:eA cA)(h:gt)(E:w.heap[g]?=tG (uc f h (0,0)))(G:d+n<=f.size)(K:0<n):
  (Builtin.clear_ #[t] q #[tU (tG ⟨g,d,tM⟩) n cap]).run P w= .ok (.tuple #[]) (w.setRow g (f.toList.take d++km n z++f.toList.drop (d+n)).toArray):=by
 have J:(qu #[z] n).toList=km n z:=by
  apply List.ext_getElem?;intro j
  by_cases o:j<n
  ·simp[qu,o,Nat.mod_one]
  ·simp[qu,o]
 have hst:=run_storeCells_at P g d h (km n z) 0 f w E (by simpa using G) (by intro u hu;rw[List.eq_of_mem_replicate hu];exact A);simp only[ki,List.length_replicate] at hst;obtain⟨m,rfl⟩:∃m,n=m+1:=⟨n-1,by omega⟩
 simp[Builtin.clear_,j9 v,zeroValue,typeInfo,hi,x,y,J,hst]
theorem oz {P:lr}(w:World){ops:eA mS}{rest:bj mS}{o:mS}{a:Act}{Q:Exit->Act->World->Prop}(q:o.guard=tM)(x:tE)(t e:gt)
  (u:o.op= .call {callee:= .builtin .clear,args:=#[x],argTypes:=#[t]})(i:TypeInfo)(z:cA)(v:P.underlying t=tG (.slice e))(hi:P.info? e=tG i)(y:i.zero=tG z)(A:z.cells=#[z])(E:z.oneCell'=tP)
  (g d n cap:bh)(G:a.eval x= tU (tG ⟨g,d,tM⟩) n cap)(f:eA cA)(j:gt)(J:w.heap[g]?=tG (uc f j (0,0)))(K:d+n<=f.size)(R:0<n)
  (h:pZ P ops Q rest (a.put o.dst (.tuple #[])) (w.setRow g (f.toList.take d++km n z++f.toList.drop (d+n)).toArray)):pZ P ops Q (o::rest) a w:=
 tr q λ_ hK=>by
  unfold nd execOp;simp only[u,resolve,invoke,builtin,fX,sn,mu,List.map_toArray,mA,pm,G,DY w t o.type e i z v hi y A E g d n cap f j J K R];exact hK _ _ h
theorem d9 {P:lr}{w:World}{ops:eA mS}{rest:bj mS}{o:mS}{a:Act}{Q:Exit->Act->World->Prop}
  (j:o.guard=tM)(l c:tE)(t:gt)(q:o.op=Op.makeSlice t l c)
  (e:gt)(i:TypeInfo)(z:cA)(u:P.underlying t=tG (.slice e))(v:P.info? e=tG i)(x:i.zero=tG z)(y:i.size=1)(A:z.cells=#[z])
  (f g:IntKind)(L C:aw)(n:bh)(E:a.eval l= .int f L)(G:a.eval c= .int g C)(J:L=(n:aw))(hC:C=(n:aw))(b2:i.bytes*n<=281474976710656)(R:n<=eC)
  (hK:pZ P ops Q rest (a.put o.dst (tU (tG ⟨w.heap.size,0,tM⟩) n n)) (w.alloc (uc (km n z).toArray e))):
  pZ P ops Q (o::rest) a w:=by
 refine tr j λK ue=> ?_;subst J;subst hC;have up:(n:aw)<=9223372036854775807:=by
  have h:=R;simp[eC] at h;omega
 have ur:(i.bytes:aw)*(n:aw)<=281474976710656:=by
  have h:((i.bytes*n:bh):aw)<=281474976710656:=by omega
  rwa [Int.natCast_mul] at h
 have d:=run_make (P:=P) w t e i z u v x f g n n (by omega) (Int.le_refl _) ur up;simp only[eW,y,A,Nat.mul_one] at d;have hm:madeCells #[z] n=(km n z).toArray:=by
  rw[<-toList_madeCells_one]
 rw[hm] at d;unfold nd;simp[execOp,q,E,G,d,mT];exact ue _ _ (by simpa using hK)
theorem jq {P:lr}(w:World)(g:fS)(f:gt)(e:eA cA)(d:TypeDesc)(q:∀j u,e.toList[j]?=tG u->w.cell? (g.add j)=tG u)
  (t:P.underlying f=tG d)(y:(match d with| .struct _| .array _ _=>tP|_=>tR)=tP)(hi:(P.info? f).map (·.size)=tG e.size):
  (loadVar f g).run P w= .ok (ub e) w:=by
 have o:(loadCells g e.toList.length).run P w= .ok e.toList.toArray w:=run_loadCells_list (P:=P) w g e.toList q;cases h:P.info? f with
 |none=>simp[h] at hi
 |some i=>
  have v:i.size=e.size:=by simpa[h] using hi
  have x:(isAgg f).run P w= .ok tP w:=by
   unfold isAgg;rw[fX,j9 t w];cases d<;>simp_all
  simp only[Array.length_toList,Array.toArray_toList] at o;simp[loadVar,fX,x,sizeOf,typeInfo,h,v,o]
theorem au {P:lr}{ops:eA mS}{rest:bj mS}{o:mS}{a:Act}{w:World}{Q:Exit->Act->World->Prop}(q:o.guard=tM)(e:gt)(x:tE)(t:o.op= .load e x)
  (g:fS)(v:a.eval x= tW (tG g))(f:eA cA)(d:TypeDesc)(y:∀j u,f.toList[j]?=tG u->w.cell? (g.add j)=tG u)
  (z:P.underlying e=tG d)(A:(match d with| .struct _| .array _ _=>tP|_=>tR)=tP)(hi:(P.info? e).map (·.size)=tG f.size)
  (h:pZ P ops Q rest (a.put o.dst (ub f)) w):pZ P ops Q (o::rest) a w:=
 tr q λ_ E=>by
  unfold nd execOp;simp only[t,v,Instr.loadAt,Instr.sureAddr,fX,sn,mu,jq w g e f d y z A hi];exact E _ _ h
def cZ (w:World)(B:bh)(ao:cG fS)(d:bj Ins):Prop:=
 d≠[]->∃b e,ao=tG ⟨b,e,tM⟩/\b<B/\∀i x,d[i]?=tG x->∀k u,x.cells.toList[k]?=tG u->w.cell? ⟨b,e+i*13+k,tM⟩=tG u
theorem cZ.below {w w':World}{B n:bh}{ao:cG fS}{d:bj Ins}(h:cZ w B ao d)(f:aE n w w')(g:B<=n):cZ w' B ao d:=by
 intro j;obtain⟨b,o,q,e,t⟩:=h j;exact⟨b,o,q,e,λi x v k u y=>by rw[f.cell (p:=⟨b,_,tM⟩) (cH e g)];exact t i x v k u y⟩
theorem cZ.mono {w:World}{B B':bh}{ao:cG fS}{d:bj Ins}(h:cZ w B ao d)(o:B<=B'):cZ w B' ao d:=by
 intro e;obtain⟨b,f,g,q,j⟩:=h e;exact⟨b,f,g,by omega,j⟩
structure dx where
 nm:bm
 par:aw
 varsA:cG fS
 nvars:bh
 varsC:bh
 rp:mm
 rto:bm
 rcl:aw
 fromA:cG fS
 nfrom:bh
 fromC:bh
 insA:cG fS
 insC:bh
 ins:bj Ins
def dx.cells (c:dx):eA cA:=#[tS c.nm,Z U c.par,tU c.varsA c.nvars c.varsC,ua c.rp,tS c.rto,Z U c.rcl,tU c.fromA c.nfrom c.fromC,tU c.insA c.ins.length c.insC]
def eB (n:bh)(x:aw):mm:=decide (0<=x/\x<n)
def aU (d:bj Ins)(at_:bh):bj bh:=
 match d[at_]? with
 |none=>[]
 |some i=>((fJ i at_).filter (eB d.length)).map Int.toNat
theorem rU (n:bh)(l:bj aw):((l.filter (eB n)).map Int.toNat).map (λx:bh=>(x:aw))=l.filter (eB n):=by
 rw[List.map_map]
 conv=>rhs;rw[<-List.map_id (l.filter (eB n))]
 refine List.map_congr_left λx d=> ?_;have:=(gC.1 d).2;simp[eB] at this;simp;omega
theorem zH {p:Prop}(h:p):cj p:=h
theorem zE {α:Sort _}(a:α):∃b,a=b:=⟨a,rfl⟩
theorem zR {W:World}{b:bh}{d:eA cA}{e:gt}{f:bh×bh}(g:W.heap[b]?=tG (uc d e f))(k:bh)(v:cA)(h:d[k]?=tG v:=by rfl):W.cell? ⟨b,k,tM⟩=tG v:=by
 rw[bw _ _ _ _ _ _ g];exact h
theorem iR {N:bh}{w W:World}{o:Obj}(h:w.alloc o=W)(d:w.heap.size=N):aE N w W:=by
 rw[<-h,<-d];exact(aq _ _).alloc (cg _) _
theorem vX {N:bh}{w W:World}{o q:Obj}(h:(w.alloc o).alloc q=W)(d:w.heap.size=N):aE N w W:=by
 rw[<-h,<-d];exact((aq _ _).alloc (cg _) _).alloc (by simp) _
theorem il {w W:World}{o:Obj}(h:w.alloc o=W):aE w.heap.size w W:=iR h rfl
theorem E8 {w W:World}{o q:Obj}(h:(w.alloc o).alloc q=W):aE w.heap.size w W:=vX h rfl
theorem zD {w w2 W:World}{o:Obj}(h:w2.alloc o=W)(d:cj (aE w.heap.size w w2)):aE w.heap.size w W:=by
 rw[<-h];exact d.out.alloc d.out.size _
theorem vY {w W:World}{N:bh}{o q:Obj}(h:(w.alloc o).alloc q=W)(d:w.heap.size=N):W.heap[N]?=tG o:=by
 rw[<-h,<-d];exact kp _ _ _
theorem zl {w W:World}{N:bh}{o q:Obj}(h:(w.alloc o).alloc q=W)(d:w.heap.size=N):W.heap[N+1]?=tG q:=by
 rw[<-h,<-d];exact jp _ _ _
abbrev zP (f:FuncId)(d:eA cA)(w:World)(v:cA):Prop:=ge am f d w λe w'=>e= ud v/\aE w.heap.size w w'
abbrev zS (f:FuncId)(d:eA cA)(w:World)(v:cA):Prop:=ge am f d w λe w'=>e= ud v/\w=w'
theorem zU {α:Type _}{l:bj α}{n:bh}(h:l.length=n+1):∃a t,l=a::t/\t.length=n:=by
 obtain⟨a,t,e⟩:=qk h;exact⟨a,t,e,by subst e;simpa using h⟩
section ext
variable {M M':bh->Prop}{w w' w'':World}
theorem Ext.refl (M:bh->Prop)(w:World):Ext M w w:=⟨rfl,rfl,rfl,cg _,λ_ _ _=>rfl⟩
theorem Ext.mono (h:Ext M w w')(d:∀k,M k->M' k):Ext M' w w':=⟨h.os,h.tape,h.output,h.size,λk f g=>h.block k f (λe=>g (d k e))⟩
theorem Ext.trans (h:Ext M w w')(k:Ext M' w' w'')(g:∀j,M' j->M j\/w.heap.size<=j):Ext M w w'':=
 ⟨k.os.trans h.os,k.tape.trans h.tape,k.output.trans h.output,eJ h.size k.size,λj d f=>(k.block j (cH d h.size) (λe=>by rcases g j e with e|e;exact f e;omega)).trans (h.block j d f)⟩
theorem Ext.drew (h:Ext M w w'):Ext M w w'.drew:=⟨h.os,h.tape,h.output,h.size,h.block⟩
theorem Ext.alloc (h:Ext M w w')(o:Obj):Ext M w (w'.alloc o):=⟨h.os,h.tape,h.output,by rw[World.size_alloc];exact Nat.le_succ_of_le h.size,λk d e=>(cJ w' o k (cH d h.size)).trans (h.block k d e)⟩
theorem Ext.setCell (h:Ext M w w'){a:fS}(d:M a.block\/w.heap.size<=a.block)(v:cA):Ext M w (w'.setCell a v):=
 ⟨h.os,h.tape,h.output,by rw[World.size_setCell];exact h.size,λk g f=>(dg w' a v k (λe=>by subst e;rcases d with d|d;exact f d;omega)).trans (h.block k g f)⟩
theorem Ext.set1 (w:World)(b o:bh)(v:cA):Ext (·=b) w (w.setCell ⟨b,o,tM⟩ v):=(Ext.refl (·=b) w).setCell (a:=⟨b,o,tM⟩) (.inl rfl) v
theorem Ext.putObj (w:World)(l:bh)(o:Obj):Ext (·=l) w (w.putObj l o):=⟨rfl,rfl,rfl,by simp,λ_ _ d=>World.putObj_heap_other d⟩
theorem Ext.of_below {B:bh}(h:aE B w w'):Ext (B<=·) w w':=⟨h.os,h.tape,h.output,h.size,λk _ d=>h.block k (by omega)⟩
theorem Ext.of_below_size (h:aE w.heap.size w w'):Ext M w w':=⟨h.os,h.tape,h.output,h.size,λk d _=>h.block k d⟩
theorem Ext.below {B:bh}(h:Ext M w w')(f:B<=w.heap.size)(d:∀k,M k->B<=k):aE B w w':=⟨h.os,h.tape,h.output,h.size,λk g=>h.block k (by omega) (λe=>by have:=d k e;omega)⟩
theorem Ext.of_grown {d:cG bh}(h:w.grownBy w' d)(f:∀k,d=tG k->M k\/w.heap.size<=k):Ext M w w':=⟨h.os,h.tape,h.output,h.size,λk g j=>h.block k g (λe=>by rcases f k e.symm with e|e;exact j e;omega)⟩
theorem Ext.cell (h:Ext M w w'){a:fS}(d:a.block<w.heap.size)(e:¬M a.block):w'.cell? a=w.cell? a:=World.cell?_of_block (w:=w) (h.block a.block d e)
theorem Ext.heap (h:Ext M w w'){k:bh}{o:Obj}(d:w.heap[k]?=tG o)(e:¬M k):w'.heap[k]?=tG o:=(h.block k (br.1 d).1 e).trans d
end ext
def E9 (R:Act->World->Prop):Exit->Act->World->Prop
 | .normal,a,w=>R a w
 |_,_,_=>me
theorem DZ {P:lr}{c:Code}{Q:Exit->Act->World->Prop}{a:Act}{w:World}(R:Act->World->Prop)(f:∀a w,R a w->Q .normal a w)(h:c.wp P (E9 R) a w):c.wp P Q a w:=
 Code.wp_mono (λe a w d=>by cases e<;>first|exact f _ _ d|exact d.elim) h
def mark (b:bh):Deferred:={target:= .collected b,args:=#[]}
def bodyPostC (P:lr)(fn:Func)(R:Ending->World->Prop):Exit->Act->World->Prop
 | .normal,a,w| .ret,a,w=>∃d:bj bh,a.defers=d.map mark/\d.Nodup/\(∀b∈d,w.heap[b]?=tG (.deferred (tG [])))/\
   ∃v,∀w',Ext (·∈d) w w'->(th fn a.tmps).run P w'= .ok v w'/\R (ud v) w'
 |_,_,_=>me
theorem kG {P:lr}{fn:Func}{n:bh}{tmps:eA cA}{R:Ending->World->Prop}{v:cA}:∀(d:bj bh)(w:World),d.Nodup->(∀b∈d,w.heap[b]?=tG (.deferred (tG [])))->
  (∀w',Ext (·∈d) w w'->(th fn tmps).run P w'= .ok v w'/\R (ud v) w')->LeavesInM i7 n P fn tmps R (d.map mark) .returning w
 |[],w,_,_,h=>⟨v,h w (Ext.refl _ _)⟩
 |b::d,w,f,g,h=>by
  refine⟨by simp,.inl ⟨b,_,rfl,run_takeDeferred (g b (by simp)), ?_⟩⟩;have t:b∉d:=(ti.1 f).1;refine kG d _ (ti.1 f).2 (λo q=> ?_) (λw' u=>h w' ?_)
  ·rw[World.putObj_heap_other (λe:o=b=>t (by rw[<-e];exact q))];exact g o (by simp[q])
  ·exact((Ext.putObj w b _).mono (by simp)).trans u (λj x=> .inl (by simp[x]))
theorem oC {P:lr}{f:FuncId}{fn:Func}{c:Code}{args:eA cA}{w:World}{R:Ending->World->Prop}(u:P.funcs[f]?=tG fn)(x:fn.body=tG c)
  (h:c.wp P (bodyPostC P fn R) {tmps:=args++eI (fn.ntmps-args.size) undef,defers:=[]} w):ge P f args w R:=by
 refine(callsIn_wide (n:=0)).1 (callsIn_of_wp_marks u x trivial (rv.2 (wp_mono h ?_)));intro e a w d;cases e with
 |normal=>obtain⟨g,j,o,q,v,t⟩:=d;show LeavesInM _ _ _ _ _ _ a.defers _ _;rw[j];exact kG g w o q t
 |ret=>obtain⟨g,j,o,q,v,t⟩:=d;show LeavesInM _ _ _ _ _ _ a.defers _ _;rw[j];exact kG g w o q t
 |panic _=>exact d.elim
 |exit _=>exact d.elim
 |goto _=>exact d.elim
 |outgrown=>exact d.elim
def Fa (P:lr)(fv:cA)(args:eA cA)(W:World)(R:cA->World->Prop):Prop:=
 ∀(r:cG bh)(n:bh)(o:mS)(f:tE)(d:eA tE)(e:eA gt)(a:Act)(K:Act->World->Prop)(Q:Exit->Act->World->Prop),
  o.op= .call {callee:= .value f,args:=d,argTypes:=e}->a.eval f=fv->d.map a.eval=args->(∀v w',R v w'->K (a.put o.dst v) w')->o.wpIn {i7 with round:=r} n P a W K Q
theorem BK {r:cG bh}{o:mS}{c:Call}(ρ:tE->cA)(d:o.op= .call c):o.semAt r ρ=execOp ρ o:=Oper.semAt_eq r ρ o (λe h=>by rw[d] at h;cases h)
theorem rV {P:lr}{l m:bh}{args:eA cA}{W:World}{R:cA->World->Prop}(h:YieldAt i7 m P l args W λe w'=>∃v,e= ud v/\R v w'):Fa P (.func (.yield l) #[] #[]) args W R:=by
 intro r n o f A E a K Q d g j q;obtain⟨fn,tmps,assign,body,t,_,u⟩:=h;refine⟨λ_ _=>trivial, ?_⟩;rw[BK _ d];unfold execOp;simp only[d,resolve,g,j];have e:(invoke (Target.fn (.yield l) #[]) (#[]++args)).run P W= .ok (.round l fn tmps assign body) W:=by simp[invoke,t]
 simp only[Deferred.ofValue,fX,sn,mu,e];refine⟨λh=>by simp[i7] at h,trivial,λc x _=> ?_⟩;obtain⟨G,w',⟨v,rfl,y⟩,z⟩:=u c x (room_wide _);exact⟨ud v,w',q v w' y,z⟩
theorem jr {P:lr}{n:bh}{ops:eA mS}{rest:bj mS}{o:mS}{a:Act}{w:World}{Q:Exit->Act->World->Prop}{r:cG bh}(g:o.guard=tM)(f:tE)(d:eA tE)(e:eA gt)
  (j:o.op= .call {callee:= .value f,args:=d,argTypes:=e}){fv:cA}{args:eA cA}{R:cA->World->Prop}(q:a.eval f=fv)(t:d.map a.eval=args)(u:Fa P fv args w R)
  (h:∀v w',R v w'->wpListIn {i7 with round:=r} n P ops Q rest (a.put o.dst v) w'):wpListIn {i7 with round:=r} n P ops Q (o::rest) a w:=
 wpListIn_plain g λ_ x=>u r n o f d e a _ Q j q t λv w' y=>x _ _ (h v w' y)
theorem aX {P:lr}{n:bh}{ops:eA mS}{rest:bj mS}{o:mS}{a:Act}{w w':World}{Q:Exit->Act->World->Prop}{r:cG bh}(d:o.guard=tM)(e:∀c,o.op≠ .defer c)(v:cA)
  (f:(execOp a.eval o).run P w= .ok (.value v) w')(h:wpListIn {i7 with round:=r} n P ops Q rest (a.put o.dst v) w'):wpListIn {i7 with round:=r} n P ops Q (o::rest) a w:=
 wpListIn_plain d λ_ g=>by
  refine⟨λ_ _=>trivial, ?_⟩;rw[Oper.semAt_eq _ _ _ e,f];exact g _ _ h
def Iter (P:lr)(gf:bh)(lb:eA cA){α:Type}(o:α->eA cA)(xs:bj α)(Rd:bh->Prop)(w:World):Prop:=
 ∀(l:bh)(J:bj α->(bh->Prop)->World->Prop)(g:bj α->World->Prop)(C:bh->Prop)(W:World),aE w.heap.size w W->
  (∀d C W1 f,J d C W1->Ext (λk=>W.heap.size<=k/\¬C k) W1 f->J d C f)->
  (∀d C W1,J d C W1->∀k,C k->k<W1.heap.size/\¬Rd k)->
  (∀d W1 f,g d W1->Ext (λ_=>me) W1 f->g d f)->
  (∀d x C W1,J d C W1->(d++[x])<+:xs->Fa P (.func (.yield l) #[] #[]) (o x) W1 λv f=>
   (v= ua tP/\∃h:bh->Prop,(∀k,h k->C k\/W1.heap.size<=k)/\J (d++[x]) h f/\Ext C W1 f)\/(v= ua tR/\g (d++[x]) f))->
  J [] C W->
  ge P gf (#[.func (.yield l) #[] #[]]++lb) W λe j=>∃v,e= ud v/\((∃h,J xs h j)\/(∃d,d<+:xs/\g d j))
def Gv {α:Type}(I:bj α->(bh->Prop)->World->Prop)(g:Code->bj α->(bh->Prop)->World->Prop)(C:bh->Prop)(W:World)(f:bj α):Exit->Act->World->Prop
 | .normal,_,d=>∃e:bh->Prop,(∀k,e k->C k\/W.heap.size<=k)/\I f e d/\Ext C W d
 | .ret,_,d=>∃e:bh->Prop,(∀k,e k->C k\/W.heap.size<=k)/\g .ret f e d/\Ext C W d
 | .exit id,_,d=>∃e:bh->Prop,(∀k,e k->C k\/W.heap.size<=k)/\g (.exit id) f e d/\Ext C W d
 | .goto t,_,d=>∃e:bh->Prop,(∀k,e k->C k\/W.heap.size<=k)/\g (.goto t) f e d/\Ext C W d
 |_,_,_=>me
theorem pU {P:lr}{α:Type}{g:tE}{ps:eA Tmp}{assign body:Code}{Q:Exit->Act->World->Prop}{a:Act}{w:World}{gf:bh}{lb:eA cA}{fn:Func}{fb:Code}
  (hg:a.eval g= .func (.func gf) #[] lb)(hf:P.funcs[gf]?=tG fn)(ws:(fn.name=="runtime.NumGoroutine")=tR)(hb:fn.body=tG fb)
  {vp:α->eA cA}{xs:bj α}{Rd:bh->Prop}{w0:World}(xf:Iter P gf lb vp xs Rd w0)(we:aE w0.heap.size w0 w)(hRd:∀k,Rd k->k<w.heap.size)(xj:∀x,(vp x).size=ps.size)
  (I:bj α->(bh->Prop)->World->Prop)(Ix:Code->bj α->(bh->Prop)->World->Prop)
  (hI:∀d C W W',I d C W->Ext (λk=>w.heap.size<=k/\¬C k) W W'->I d C W')
  (hIC:∀d C W,I d C W->∀k,C k->k<W.heap.size/\¬Rd k)
  (hIx:∀c d C W W',Ix c d C W->Ext (λk=>w.heap.size<=k/\¬C k) W W'->Ix c d C W')
  (C0:bh->Prop)(h0:I [] C0 w)
  (hround:∀(l:bh)(d:bj α)(x:α)(C:bh->Prop)(W:World),w.heap.size<=l->I d C W->(d++[x])<+:xs->
   assign.wpIn (i7.inRound l) 0 P (Exit.then (λa₁ W₁=>∃K:bh->Prop,(∀k,K k->C k\/W.heap.size<=k)/\I d K W₁/\Ext C W W₁/\
    ∀E,I d K E->Ext (·=l) W₁ E->body.wpIn (i7.inRound l) 0 P (Gv I Ix K E (d++[x])) a₁ E) (λ_ _ _=>me))
    {tmps:=(ps.zip (vp x)).foldl (λt (p,v)=>t.setIfInBounds p v) a.tmps,defers:=[]} W)
  (hdone:∀(D:bh)(C:bh->Prop)(W:World),w.heap.size<=D->¬C D->I xs C W->W.heap[D]?=tG (.deferred (tG []))->Q .normal {a with defers:=mark D::a.defers} W)
  (hstop:∀(D:bh)(c:Code)(d:bj α)(C:bh->Prop)(W:World),w.heap.size<=D->¬C D->d<+:xs->Ix c d C W->W.heap[D]?=tG (.deferred (tG []))->c.wp P Q {a with defers:=mark D::a.defers} W):
  (Code.rangeFunc g ps assign body).wp P Q a w:=by
 have eg:∀args w,(callFunc gf args).run P w= .ok (.enter gf args) w:=enters_of hf ws hb;refine(rv (n:=0)).1 (wpIn_rangeFunc ?_);intro wg _;obtain⟨y,ue⟩:∃y:LoopState->cG Code->Loop,y=λst pe=>{state:=st,pending:=pe,fn:=wg,tmps:=a.tmps,params:=ps,assign,body,defers:=w.heap.size}:=⟨_,rfl⟩
 obtain⟨W1,vm⟩:=zE ((w.alloc (.deferred (tG []))).alloc (.loop (y .ready tM)));obtain⟨D,hD⟩:=zE w.heap.size;obtain⟨l,hl⟩:=zE (w.heap.size+1);have yv:W1.heap.size=w.heap.size+2:=by rw[<-vm];simp
 have xo:W1.heap[l]?=tG (.loop (y .ready tM)):=by
  rw[<-vm,<-hl];have:=World.alloc_heap_new (w.alloc (.deferred (tG []))) (.loop (y .ready tM));rwa [World.size_alloc] at this
 have xp:W1.heap[D]?=tG (.deferred (tG [])):=by
  rw[<-vm,<-hD];exact(cJ _ _ _ (by simp)).trans (World.alloc_heap_new w _)
 have wj:Ext (λ_=>me) w W1:=by rw[<-vm];exact((Ext.refl _ w).alloc _).alloc _
 have xt:I [] C0 W1:=hI _ _ _ _ h0 (wj.mono (λ_ h=>h.elim));have xF:aE w0.heap.size w0 W1:=we.trans ((wj.below (cg _) (λ_ h=>h.elim)).mono we.size);refine⟨l,[mark D],W1,{target:= .fn (.func gf) lb,args:=#[.func (.yield l) #[] #[]]},W1,gf,#[.func (.yield l) #[] #[]]++lb,W1, ?_, ?_,λ_ _=>trivial, ?_,λh=>by simp[i7] at h, ?_⟩
 ·rw[<-vm,ue,<-hl,<-hD];exact run_enterLoop_outer _ _ _ _ _
 ·simp only[resolve,hg]
  simp[go_sem]
 ·simp[invoke,go_sem,eg]
 have xT:=xf l
  (λd C W=>∃o:bh->Prop,(∀k,C k↔o k\/k=l\/k=D)/\¬o l/\¬o D/\I d o W/\W.heap[l]?=tG (.loop (y .ready tM))/\W.heap[D]?=tG (.deferred (tG [])))
  (λd W=>∃(o:bh->Prop) (c:Code),¬o l/\¬o D/\Ix c d o W/\W.heap[l]?=tG (.loop (y .done (tG c)))/\W.heap[D]?=tG (.deferred (tG [])))
  (λk=>C0 k\/k=l\/k=D) W1 xF ?hst ?hC ?hstx ?hY ⟨C0,λ_=>Iff.rfl,λh=>by have:=(hIC _ _ _ h0 l h).1;omega,λh=>by have:=(hIC _ _ _ h0 D h).1;omega,xt,xo,xp⟩
 case hst=>
  rintro d C X Y ⟨o,z,n1,n2,hi,h1,h2⟩ hx;refine⟨o,z,n1,n2,hI _ _ _ _ hi (hx.mono λk A=>⟨by omega,λh=>A.2 ((z k).2 (.inl h))⟩),hx.heap h1 (λh=>h.2 ((z l).2 (by simp))),hx.heap h2 (λh=>h.2 ((z D).2 (by simp)))⟩
 case hC=>
  rintro d C X ⟨o,z,n1,n2,hi,h1,h2⟩ k A;rcases(z k).1 A with h|rfl|rfl
  ·exact hIC _ _ _ hi k h
  ·exact⟨(br.1 h1).1,λh=>by have:=hRd _ h;omega⟩
  ·exact⟨(br.1 h2).1,λh=>by have:=hRd _ h;omega⟩
 case hstx=>
  rintro d X Y ⟨o,c,n1,n2,hi,h1,h2⟩ hx;exact⟨o,c,n1,n2,hIx _ _ _ _ _ hi (hx.mono λ_ h=>h.elim),hx.heap h1 (λh=>h),hx.heap h2 (λh=>h)⟩
 case hY=>
  rintro d x C W ⟨o,z,n1,n2,hi,up,vf⟩ vx;have yy:l<W.heap.size:=(br.1 up).1;have yW:D<W.heap.size:=(br.1 vf).1;have hy:=run_yield (P:=P) (args:=vp x) up (by rw[ue];exact xj x);rw[ue] at hy;refine rV (m:=0) ⟨wg,_,assign,body,hy,roundIn_of_wpIn trivial (wpIn_mono (hround l d x o W (by omega) hi vx) ?_)⟩;intro e a₁ W₁ hq;cases e with
  |normal=>
   obtain⟨K,vq,yb,vh,yd⟩:=hq;have wk:=vh.heap up n1;have ye:=vh.heap vf n2;have m1:¬K l:=λh=>by rcases vq l h with h|h;exact n1 h;omega
   have m2:¬K D:=λh=>by rcases vq D h with h|h;exact n2 h;omega
   refine⟨_,run_beginRound wk (by rw[ue]), ?_⟩;obtain⟨E,vy⟩:∃E,W₁.putObj l (.loop {y .ready tM with state:= .busy})=E:=⟨_,rfl⟩
   rw[vy];have ur:Ext (·=l) W₁ E:=by rw[<-vy];exact Ext.putObj _ _ _
   have yi:E.heap[l]?=tG (.loop {y .ready tM with state:= .busy}):=by rw[<-vy];exact World.putObj_heap_same (br.1 wk).1
   have yk:E.heap[D]?=tG (.deferred (tG [])):=ur.heap ye (by omega);have yp:I d K E:=hI _ _ _ _ yb (ur.mono λk A=>by subst A;exact⟨by omega,m1⟩);refine wpIn_mono (yd E yp ur) ?_;have yq:Ext C W W₁:=vh.mono λk h=>(z k).2 (.inl h);have vr:∀(q:cG Code)(f:bh->Prop)(W₃:World),(∀k,f k->K k\/E.heap.size<=k)->Ext K E W₃->
     (Instr.endRound l q).run P W₃= .ok (ua q.isNone) (W₃.putObj l (.loop (y (if q.isNone then .ready else .done) q)))/\
     (W₃.putObj l (.loop (y (if q.isNone then .ready else .done) q))).heap[l]?=tG (.loop (y (if q.isNone then .ready else .done) q))/\
     (W₃.putObj l (.loop (y (if q.isNone then .ready else .done) q))).heap[D]?=tG (.deferred (tG []))/\¬f l/\¬f D/\Ext C W (W₃.putObj l (.loop (y (if q.isNone then .ready else .done) q)))/\
     Ext (λk=>w.heap.size<=k/\¬f k) W₃ (W₃.putObj l (.loop (y (if q.isNone then .ready else .done) q)))/\(∀k,f k->o k\/W.heap.size<=k):=by
    intro q f W₃ G J;have wl:=J.heap yi m1;have yr:=J.heap yk m2;have u:=run_endRound (P:=P) q wl;rw[ue] at u⊢;have R:¬f l:=λh=>by rcases G l h with h|h;exact m1 h;have:=ur.size;have:=vh.size;omega
    have q2:¬f D:=λh=>by rcases G D h with h|h;exact m2 h;have:=ur.size;have:=vh.size;omega
    refine⟨u,World.putObj_heap_same (br.1 wl).1,(World.putObj_heap_other (by omega)).trans yr,R,q2, ?_,(Ext.putObj _ _ _).mono (λk A=>by subst A;exact⟨by omega,R⟩), ?_⟩
    ·refine((yq.trans ur (λj hj=> .inl ((z j).2 (by simp[hj])))).trans J (λj hj=> ?_)).trans (Ext.putObj _ _ _) (λj hj=> .inl ((z j).2 (by simp[hj])))
     rcases vq j hj with h|h
     ·exact .inl ((z j).2 (.inl h))
     ·exact .inr h
    ·intro k A
     rcases G k A with h|h
     ·exact vq k h
     ·right;have:=ur.size;have:=vh.size;omega
   intro e a3 W3 hp;cases e with
   |normal=>
    obtain⟨f,G,uv,J⟩:=hp;obtain⟨u,ux,vc,R,q2,vt,vd,vu⟩:=vr tM f W3 G J;refine⟨_,_,u,_,rfl,.inl ⟨rfl,λk=>f k\/k=l\/k=D,λk A=> ?_,⟨f,λ_=>Iff.rfl,R,q2,hI _ _ _ _ uv vd,ux,vc⟩,vt⟩⟩;rcases A with h|h|h
    ·rcases vu k h with h|h
     ·exact .inl ((z k).2 (.inl h))
     ·exact .inr h
    ·exact .inl ((z k).2 (by simp[h]))
    ·exact .inl ((z k).2 (by simp[h]))
   |ret=>
    obtain⟨f,G,uv,J⟩:=hp;obtain⟨u,ux,vc,R,q2,vt,vd,vu⟩:=vr (tG .ret) f W3 G J;exact⟨_,_,u,_,rfl,.inr ⟨rfl,f,.ret,R,q2,hIx _ _ _ _ _ uv vd,ux,vc⟩⟩
   |exit id=>
    obtain⟨f,G,uv,J⟩:=hp;obtain⟨u,ux,vc,R,q2,vt,vd,vu⟩:=vr (tG (.exit id)) f W3 G J;exact⟨_,_,u,_,rfl,.inr ⟨rfl,f,.exit id,R,q2,hIx _ _ _ _ _ uv vd,ux,vc⟩⟩
   |goto t=>
    obtain⟨f,G,uv,J⟩:=hp;obtain⟨u,ux,vc,R,q2,vt,vd,vu⟩:=vr (tG (.goto t)) f W3 G J;exact⟨_,_,u,_,rfl,.inr ⟨rfl,f,.goto t,R,q2,hIx _ _ _ _ _ uv vd,ux,vc⟩⟩
   |panic ch=>exact hp.elim
   |outgrown=>exact hp.elim
  |exit _=>exact hq.elim
  |goto _=>exact hq.elim
  |ret=>exact hq.elim
  |panic _=>exact hq.elim
  |outgrown=>exact hq.elim
 refine CallsIn.mono ((callsIn_wide (n:=0-1)).2 xT) ?_;rintro e W2 ⟨v,rfl,(⟨f,o,z,n1,n2,hi,up,vf⟩|⟨d,vx,o,c,n1,n2,hi,up,vf⟩)⟩
 ·have u:=run_endLoop (P:=P) up (by rw[ue];simp)
  rw[ue] at u;refine⟨tM,_,u,hdone D o _ (by omega) n2 (hI _ _ _ _ hi ((Ext.putObj _ _ _).mono λk A=>by subst A;exact⟨by omega,n1⟩)) ((World.putObj_heap_other (by omega)).trans vf)⟩
 ·have u:=run_endLoop (P:=P) up (by rw[ue];simp)
  rw[ue] at u;refine⟨tG c,_,u,rv.2 (hstop D c d o _ (by omega) n2 vx (hIx _ _ _ _ _ hi ((Ext.putObj _ _ _).mono λk A=>by subst A;exact⟨by omega,n1⟩)) ((World.putObj_heap_other (by omega)).trans vf))⟩
theorem bytes_inj {x y:bm}(h:x.data.toList=y.data.toList):x=y:=by
 obtain⟨a⟩:=x;obtain⟨b⟩:=y;have:a=b:=Array.ext' h;rw[this]
instance Hz:LawfulBEq bm where
 eq_of_beq {a b} h:=bytes_inj (by have:a.data=b.data:=eq_of_beq (show(a.data==b.data)=tP from h);rw[this])
 rfl {a}:=show(a.data==a.data)=tP from BEq.rfl
theorem Ih {x y:bm}(h:x≠y):Lit.string x.data.toList≠Lit.string y.data.toList:=λe=>h (bytes_inj (by simpa using e))
def ints (xs:bj bh):bj aw:=xs.map (λx:bh=>(x:aw))
def seenCells (n:bh)(m:bj bh):eA cA:=((du n).map λk=>ua (decide (k∈m))).toArray
theorem dm {n:bh}(m:bj bh){k:bh}(h:k<n):(seenCells n m)[k]?=tG (ua (decide (k∈m))):=by
 simp[seenCells,h]
theorem mX {n:bh}(m:bj bh){x:bh}:(seenCells n m).setIfInBounds x (ua tP)=seenCells n (m++[x]):=by
 apply gS;intro i;rw[gd]
 by_cases h:i<n
 ·rw[dm _ h,dm _ h]
  by_cases e:x=i
  ·subst e;simp[seenCells,h]
  ·rw[bx e];simp;omega
 ·have d:(seenCells n m)[i]?=tM:=by simp[seenCells];omega
  have f:(seenCells n (m++[x]))[i]?=tM:=by simp[seenCells];omega
  rw[d,f]
  by_cases e:x=i
  ·subst e;simp[seenCells,h]
  ·rw[bx e]
theorem cZ.ext {w w':World}{B:bh}{ao:cG fS}{d:bj Ins}{M:bh->Prop}(h:cZ w B ao d)(j:Ext M w w')(y:B<=w.heap.size)(o:∀a,d≠[]->ao=tG a->¬M a.block):cZ w' B ao d:=by
 intro e;obtain⟨b,f,g,q,t⟩:=h e;exact⟨b,f,g,q,λi x hi k u v=>by rw[j.cell (a:=⟨b,f+i*13+k,tM⟩) (by show b<_;omega) (show¬M b from o _ e g)];exact t i x hi k u v⟩
theorem lh {d:bj Ins}{x y:bh}(h:y∈aU d x):y<d.length:=by
 unfold aU at h
 split at h
 ·simp at h
 ·simp only[gi,gC,eB,oE] at h
  obtain⟨z,⟨_,e⟩,rfl⟩:=h;omega
theorem fF (d:bj Ins)(x:bh):(aU d x).length<=2:=by
 unfold aU
 split
 ·simp
 ·rename_i i _
  have h:(fJ i x).length<=2:=by
   unfold fJ
   repeat' split
   all_goals simp
  simp only[dy];exact eJ (td _ _) h
theorem rW {d:bj Ins}{x:bh}{e:Ins}(h:d[x]?=tG e):ints (aU d x)=(fJ e x).filter (eB d.length):=by
 unfold aU;rw[h];exact rU _ _
theorem uB (n:bh):seenCells n []=(km n (ua tR)).toArray:=by
 apply gS;intro i
 by_cases h:i<n
 ·rw[dm _ h];simp[h]
 ·rw[em (by simp[seenCells];omega),em (by simp;omega)]
theorem alloc_at (w:World)(o:Obj):(w.alloc o).heap[w.heap.size]?=tG o:=World.alloc_heap_new w o
def kH (w:World)(n:bh)(M:bj bh)(e:Ending)(w':World):Prop:=
 ∃b,e= ud (tU (tG ⟨b,0,tM⟩) n n)/\w.heap.size<=b/\w'.heap[b]?=tG (uc (seenCells n M) 4 (0,0))/\aE w.heap.size w w'
def qx (n:bh)(m:bj bh):bh:=((du n).filter λx=>decide (x∉m)).length
theorem BL {n b:bh}{m:bj bh}(d:b<n)(e:b∉m):qx n (m++[b])+1<=qx n m:=by
 unfold qx;have h:(du n).filter (λx=>decide (x∉m++[b]))=((du n).filter λx=>decide (x∉m)).filter λx=>decide (x≠b):=by
  rw[List.filter_filter];apply List.filter_congr;intro x _;simp[not_or,and_comm]
 rw[h];exact List.length_filter_lt_length_iff_exists.2 ⟨b,by simp[d,e],by simp⟩
def aK (t:bj bh)(d:bj bh):bj bh:=d.foldl (λt y=>if y∈t then t else t++[y]) t
theorem uC (t d:bj bh)(y:bh):aK t (d++[y])=if y∈aK t d then aK t d else aK t d++[y]:=by
 unfold aK;rw[jx];rfl
def zm (succ:bh->bj bh):bh->bj bh->bh->cG (bj bh)
 |0,_,_=>tM
 |k+1,t,i=>match t[i]? with
  |none=>tG t
  |some x=>zm succ k (aK t (succ x)) (i+1)
theorem kT (d:bj bh):∀t:bj bh,t<+:aK t d:=by
 induction d with
 |nil=>intro t;exact pN
 |cons y d ih=>
  intro t;have e:aK t (y::d)=aK (if y∈t then t else t++[y]) d:=rfl;rw[e]
  split
  ·exact ih t
  ·exact(List.prefix_append t [y]).trans (ih _)
theorem xm (d:bj bh):∀(t:bj bh)(z:bh),z∈aK t d->z∈t\/z∈d:=by
 induction d with
 |nil=>intro t z h;exact .inl h
 |cons y d ih=>
  intro t z h;have e:aK t (y::d)=aK (if y∈t then t else t++[y]) d:=rfl;rw[e] at h;rcases ih _ z h with h|h
  ·split at h
   ·exact .inl h
   ·rcases cX.1 h with h|h
    ·exact .inl h
    ·simp at h;subst h;exact .inr (by simp)
  ·exact .inr (ie _ h)
theorem rX {succ:bh->bj bh}{T:bj bh}:∀(k:bh)(t:bj bh)(i:bh),zm succ k t i=tG T->t<+:T
 |0,_,_,h=>by simp[zm] at h
 |k+1,t,i,h=>by
  rw[zm] at h
  split at h
  ·simp at h;subst h;exact pN
  ·exact(kT _ t).trans (rX k _ _ h)
theorem zo {α:Type}(l:bj α)(p:α->mm){q:bh}{x:α}(h:l[q]?=tG x):(l.take (q+1)).any p=((l.take q).any p||p x):=by
 rw[ju,h,List.any_append];simp
def aJ {α:Type}(cells:α->eA cA)(e:bh)(w:World)(B:bh)(ao:cG fS)(xs:bj α):Prop:=
 xs≠[]->∃b d,ao=tG ⟨b,d,tM⟩/\b<B/\∀i x,xs[i]?=tG x->∀k u,(cells x).toList[k]?=tG u->w.cell? ⟨b,d+i*e+k,tM⟩=tG u
theorem aJ.below {α:Type}{cells:α->eA cA}{d:bh}{w w':World}{B n:bh}{ao:cG fS}{xs:bj α}(h:aJ cells d w B ao xs)(f:aE n w w')(g:B<=n):aJ cells d w' B ao xs:=by
 intro j;obtain⟨b,o,q,e,t⟩:=h j;exact⟨b,o,q,e,λi x v k u y=>by rw[f.cell (p:=⟨b,_,tM⟩) (cH e g)];exact t i x v k u y⟩
structure Fb where
 nm:bm
 fA:cG fS
 nf:bh
 fC:bh
 ln:aw
 cl:aw
def Fb.cells (s:Fb):eA cA:=#[tS s.nm,tU s.fA s.nf s.fC,Z U s.ln,Z U s.cl]
def Fb.light (s:Fb):Prop:=s.nf<=40/\s.nm.size<=60
def Ins.ok (i:Ins):Prop:=(∃ao cap,i.argsV= tU ao i.args.length cap)/\∃ao n cap,i.modeV= tU ao n cap
def Ins.light (i:Ins):Prop:=i.args.length<=40/\(∃ao n cap,i.modeV= tU ao n cap/\n<=40)/\i.sign.size<=20
def dx.light (c:dx):Prop:=c.ins.length<=400/\c.nvars<=400/\c.nm.size<=60/\c.nfrom<=40/\∀x∈c.ins,x.light
def dW:bj dx->bh
 |[]=>0
 |c::r=>c.ins.length+c.nvars+dW r
theorem rY (a b:bj dx):dW (a++b)=dW a+dW b:=by
 induction a with
 |nil=>simp[dW]
 |cons x r ih=>simp[dW,ih];omega
def BM (e:bj Fb)(d:bj dx):Prop:=e.length<=40/\d.length<=70/\(∀s∈e,s.light)/\(∀c∈d,c.light)/\dW d<=1200
def rZ (w:World)(B:bh)(p:Prop)(e:Ending)(w':World):Prop:=∃b:mm,e= ud (ua b)/\(b=tP->p)/\aE B w w'
theorem dL {α:Type}{p:α->Prop}{xs:bj α}{j:bh}{x:α}(h:∀y∈xs.take j,p y)(e:xs[j]?=tG x)(f:p x):∀y∈xs.take (j+1),p y:=by
 rw[aH e];intro y g;rcases cX.1 g with d|d
 ·exact h y d
 ·simp at d;subst d;exact f
theorem xn (w:World)(sA fA:cG fS)(sC fC:bh)(f:bj Fb)(d:bj dx)(vu:aJ Fb.cells 4 w w.heap.size sA f)(vx:aJ dx.cells 8 w w.heap.size fA d)
  (vy:∀c∈d,cZ w w.heap.size c.insA c.ins)(we:∀c∈d,∀x∈c.ins,x.ok)(hs:f.length<=9223372036854775807)(hc:d.length<=9223372036854775807):
  ge am 70 #[ub #[tU sA f.length sC,tU fA d.length fC]] w (rZ w w.heap.size (BM f d)):=by
 have wg:=zH vu;have wj:=zH vx;have wk:=zH vy;have xt:=zH we;clear vu vx vy we
 by_cases g1:40<f.length
 ·go_enter func70,ntmps70
  go_wp2;go_ret;exact⟨_,rfl,by simp,(aq _ _).alloc (cg _) _⟩
 by_cases g2:70<d.length
 ·go_enter func70,ntmps70
  go_wp2;go_ret;exact⟨_,rfl,by simp,(aq _ _).alloc (cg _) _⟩
 go_enter func70,ntmps70;go_wp2;obtain⟨N,y⟩:=zE w.heap.size;obtain⟨t,ue⟩:=zE (w.alloc (uc #[tU sA f.length sC,tU fA d.length fC] 25));have up:=iR ue y;have vd:t.heap[N]?=tG (uc #[tU sA f.length sC,tU fA d.length fC] 25 (0,0)):=by rw[<-ue,<-y];exact alloc_at _ _
 have xF:t.heap.size=N+1:=by rw[<-ue];simp[y]
 have At:=zR vd 0 (tU sA f.length sC);have xT:=zR vd 1 (tU fA d.length fC);have yb:cj (aJ Fb.cells 4 t N sA f):=by have:=wg.out;rw[y] at this;exact this.below up (cg _)
 have yd:cj (aJ dx.cells 8 t N fA d):=by have:=wj.out;rw[y] at this;exact this.below up (cg _)
 have ye:cj (∀c∈d,cZ t N c.insA c.ins):=λc hc=>by have:=wk.out c hc;rw[y] at this;exact cZ.below this up (cg _)
 rw[ue,y];have A:=zH up;have Ax:N<t.heap.size:=by omega
 clear ue up vd wg wj wk xF
 go_loop [4] (λc=>∃j:bh,j<=f.length/\c= Z U (j:aw)/\∀s∈f.take j,s.light) (λc=>f.length-(de c).toNat)
 case atStart=>exact⟨0,cN _,rfl,by simp⟩
 case round=>
  obtain⟨j,hj,rfl,z⟩:=hrel;have wl:=zH z;clear z
  by_cases E:j<f.length
  ·obtain⟨s,ux⟩:∃s,f[j]?=tG s:=⟨_,ap E⟩
   obtain⟨b,g,rfl,ws,h⟩:=yb.out (by intro e;rw[e] at E;simp at E);have q0:t.cell? ⟨b,g+j*4,tM⟩=tG (tS s.nm):=h j s ux 0 _ rfl;have q1:t.cell? ⟨b,g+j*4+1,tM⟩=tG (tU s.fA s.nf s.fC):=h j s ux 1 _ rfl;have yi:=zH ux;clear ux h
   by_cases c1:40<s.nf
   ·go_wp2
    go_ret;exact⟨_,rfl,by simp,A.out⟩
   ·by_cases c2:60<s.nm.size
    ·go_wp2
     go_ret;exact⟨_,rfl,by simp,A.out⟩
    ·go_wp2
     go_round
     case rel=>exact⟨j+1,by omega,by go_num,dL wl.out yi.out ⟨by omega,by omega⟩⟩
     case measure=>simp[de];omega
  ·have vf:j=f.length:=by omega
   subst vf;have yk:cj (∀s∈f,s.light):=by have:=wl.out;rwa [cR] at this
   go_wp2
   go_loopw [3,5] (λn c wr=>∃j:bh,j<=d.length/\c= Z U (j:aw)/\n= Z U ((dW (d.take j):bh):aw)/\dW (d.take j)<=1200/\(∀x∈d.take j,x.light)/\aE (N+1) t wr) (λ_ c _=>d.length-(de c).toNat)
   case atStart=>exact⟨0,cN _,rfl,rfl,by simp[dW],by simp,aq _ _⟩
   case round=>
    obtain⟨j,hj,rfl,rfl,ht,z,vh⟩:=hrel;have xf:=zH z;have G:=zH vh;have AD:wr.cell? ⟨N,1,tM⟩=tG (tU fA d.length fC):=by rw[vh.cell (p:=⟨N,1,tM⟩) (by simp)];exact xT
    clear z vh
    by_cases E:j<d.length
    ·obtain⟨c,vm⟩:∃c,d[j]?=tG c:=⟨_,ap E⟩
     obtain⟨b,g,rfl,ws,h⟩:=yd.out (by intro e;rw[e] at E;simp at E);have v:∀k u,c.cells.toList[k]?=tG u->wr.cell? ⟨b,g+j*8+k,tM⟩=tG u:=λk u hu=>by rw[G.out.cell (p:=⟨b,_,tM⟩) (Nat.lt_succ_of_lt ws)];exact h j c vm k u hu
     have q0:wr.cell? ⟨b,g+j*8,tM⟩=tG (tS c.nm):=v 0 _ rfl;have q1:wr.cell? ⟨b,g+j*8+1,tM⟩=tG (Z U c.par):=v 1 _ rfl;have q2:wr.cell? ⟨b,g+j*8+2,tM⟩=tG (tU c.varsA c.nvars c.varsC):=v 2 _ rfl;have q3:wr.cell? ⟨b,g+j*8+3,tM⟩=tG (ua c.rp):=v 3 _ rfl;have q4:wr.cell? ⟨b,g+j*8+4,tM⟩=tG (tS c.rto):=v 4 _ rfl;have q5:wr.cell? ⟨b,g+j*8+5,tM⟩=tG (Z U c.rcl):=v 5 _ rfl;have q6:wr.cell? ⟨b,g+j*8+6,tM⟩=tG (tU c.fromA c.nfrom c.fromC):=v 6 _ rfl;have q7:wr.cell? ⟨b,g+j*8+7,tM⟩=tG (tU c.insA c.ins.length c.insC):=v 7 _ rfl;have vc:=zH vm;clear vm h v;have ur:∀o:Obj,aE N w (wr.alloc o):=λo=>(A.out.trans (G.out.mono (by omega))).alloc (by have:=G.out.size;omega) _;have yp:N+1<=wr.heap.size:=by have:=G.out.size;omega
     by_cases c1:400<c.ins.length
     ·go_wp2
      go_ret;exact⟨_,rfl,by simp,ur _⟩
     by_cases c2:400<c.nvars
     ·go_wp2
      go_ret;exact⟨_,rfl,by simp,ur _⟩
     by_cases c3:60<c.nm.size
     ·go_wp2
      go_ret;exact⟨_,rfl,by simp,ur _⟩
     by_cases c4:40<c.nfrom
     ·go_wp2
      go_ret;exact⟨_,rfl,by simp,ur _⟩
     have vp:cj (dW (d.take (j+1))=dW (d.take j)+(c.ins.length+c.nvars)):=by
      unfold cj;rw[aH vc.out,rY];simp[dW]
     obtain⟨T,hT⟩:∃T,T=dW (d.take j):=⟨_,rfl⟩
     rw[<-hT] at ht vp⊢;clear hT
     by_cases c5:1200<T+c.ins.length+c.nvars
     ·go_wp2
      go_ret;exact⟨_,rfl,by simp,ur _⟩
     go_wp2;obtain⟨J,K⟩:=zE (wr.alloc (uc c.cells 38));obtain⟨M,hM⟩:=zE wr.heap.size;have xj:J.heap[M]?=tG (uc c.cells 38 (0,0)):=by rw[<-K,<-hM];exact alloc_at _ _
     have yq:=zR xj 7 (tU c.insA c.ins.length c.insC);have uv:cj (aE (N+1) t J):=by rw[<-K];exact G.out.alloc yp _
     have yr:cj (cZ J N c.insA c.ins):=cZ.below (ye.out c (cd vc.out)) uv.out (by omega);have yv:cj (∀x∈c.ins,x.ok):=xt.out c (cd vc.out);have AE:=zH K;simp only[dx.cells] at K;rw[K,hM];clear K xj hM q0 q1 q2 q3 q4 q5 q6 q7
     go_loop [7] (λk=>∃q:bh,q<=c.ins.length/\k= Z U (q:aw)/\∀x∈c.ins.take q,x.light) (λk=>c.ins.length-(de k).toNat)
     case atStart=>exact⟨0,cN _,rfl,by simp⟩
     case round=>
      obtain⟨q,hq,rfl,z⟩:=hrel;have xo:=zH z;clear z
      by_cases vq:q<c.ins.length
      ·obtain⟨x,R⟩:∃x,c.ins[q]?=tG x:=⟨_,ap vq⟩
       obtain⟨b2,vr,hA2,AF,h⟩:=yr.out (by intro e;rw[e] at vq;simp at vq);obtain⟨⟨yy,yW,xp⟩,zc,nm,zj,vt⟩:=yv.out x (cd R);have r7:J.cell? ⟨b2,vr+q*13+7,tM⟩=tG (tU yy x.args.length yW):=h q x R 7 _ (by rw[<-xp];rfl);have r8:J.cell? ⟨b2,vr+q*13+8,tM⟩=tG (tU zc nm zj):=h q x R 8 _ (by rw[<-vt];rfl);have r6:J.cell? ⟨b2,vr+q*13+6,tM⟩=tG (tS x.sign):=h q x R 6 _ rfl;rw[hA2] at yq;have zp:=zH R;have zs:=zH vt;clear R h hA2 xp vt
       by_cases d1:40<x.args.length
       ·go_wp2
        go_ret;exact⟨_,rfl,by simp,A.out.trans (uv.out.mono (by omega))⟩
       by_cases d2:40<nm
       ·go_wp2
        go_ret;exact⟨_,rfl,by simp,A.out.trans (uv.out.mono (by omega))⟩
       by_cases d3:20<x.sign.size
       ·go_wp2
        go_ret;exact⟨_,rfl,by simp,A.out.trans (uv.out.mono (by omega))⟩
       go_wp2
       go_round
       case rel=>exact⟨q+1,by omega,by go_num,dL xo.out zp.out ⟨by omega,⟨_,_,_,zs.out,by omega⟩,by omega⟩⟩
       case measure=>simp[de];omega
      ·have zv:q=c.ins.length:=by omega
       subst zv;have An:cj c.light:=by
        refine⟨by omega,by omega,by omega,by omega, ?_⟩;have:=xo.out;rwa [cR] at this
       go_wp2;go_roundw
       case rel=>exact⟨j+1,by omega,by go_num,by rw[vp.out];go_num,by rw[vp.out];omega,dL xf.out vc.out An.out,uv.out⟩
       case measure=>simp[de];omega
    ·have vf:j=d.length:=by omega
     subst vf;have HM:cj (BM f d):=by
      refine⟨by omega,by omega,yk.out, ?_, ?_⟩
      ·have:=xf.out;rwa [cR] at this
      ·rwa [cR] at ht
     go_wp2;go_ret;have hh:aE N w wr:=A.out.trans (G.out.mono (by omega));exact⟨_,rfl,λ_=>HM.out,by first|exact hh|(rw[y];exact hh)⟩
section
open Go.RowKit Go.ChangeShapes Go.WideShapes Go.Deep
theorem ll {α:Type}(p:bh->α->Prop):∀n,(∀i,i<n->∃a,p i a)->∃xs:bj α,xs.length=n/\∀i x,xs[i]?=tG x->p i x
 |0,_=>⟨[],rfl,λi x h=>by simp at h⟩
 |n+1,h=>by
  obtain⟨xs,d,e⟩:=ll p n (λi hi=>h i (by omega));obtain⟨a,f⟩:=h n (by omega);refine⟨xs++[a],by simp[d],λi x hi=> ?_⟩;rcases Nat.lt_or_ge i n with j|o
  ·rw[mB (by omega)] at hi;exact e i x hi
  ·have g:i<(xs++[a]).length:=(bl.1 hi).1
   simp[d] at g;obtain rfl:i=n:=by omega
   rw[hZ (by omega),d] at hi;simp at hi;subst hi;exact f
theorem xq {w:World}{a:fS}{v:cA}(h:w.cell? a=tG v):a=⟨a.block,a.off,tM⟩/\a.block<w.heap.size:=by
 unfold World.cell? at h
 split at h
 ·rename_i d
  have e:=(br.1 d).1;obtain⟨b,o,s⟩:=a;cases s with
  |none=>exact⟨rfl,e⟩
  |some s=>simp at h
 ·simp at h
section
variable {H:Type}{enc:gt×cA->H}{P:lr}{w:World}{base:bh}{spare:bh->mm}{held:mm}
theorem open_row {α:Type}(cells:α->eA cA)(Q:α->Prop){t e:gt}{fuel:bh}{d:bj cA}{x:DataW H×bj n9}(f:bh)(hst:0<f)(ht:P.underlying t=tG (.slice e))(A:P.cellsOf e=f)
  (ur:∀(n:bh)(d:bj cA)(x:DataW H×bj n9),kO enc P w base spare held n e d=tG x->∃a:α,(cells a).toList=d/\Q a)
  (h:kO enc P w base spare held fuel t d=tG x):
  ∃(ao:cG fS) (xs:bj α) (cap:bh),d=[.slice ao xs.length cap]/\xs.length<=eC/\aJ cells f w w.heap.size ao xs/\∀a∈xs,Q a:=by
 rcases open_slice ht h with⟨rfl,_⟩|⟨a,E,cap,m,n,D,Pl,rfl,hb,hl,hm,uv,G,hi⟩
 ·exact⟨tM,[],0,rfl,cN _,λv=>fL rfl v,λa j=>fL j (by simp)⟩
 ·have vh:E<=m:=by rw[uv];split<;>omega
  obtain⟨xs,ux,J⟩:=ll (λi (x:α)=>Q x/\∀k u,(cells x).toList[k]?=tG u->w.cell? (a.add (i*f+k))=tG u) E (by
   intro i vm;obtain⟨K,y,R⟩:=hi i (by omega);obtain⟨x,ue,vc⟩:=ur n K _ R;obtain⟨_,q,g⟩:=World.cells?_some y;rw[A] at q g;refine⟨x,vc,λk u hk=> ?_⟩;have vd:k<f:=by rw[<-q,<-ue];exact(bl.1 hk).1
   have:=g k vd;rw[<-Go.Deep.add_add,this,<-ue];exact hk)
  refine⟨tG a,xs,cap,by rw[ux],by omega,λv=> ?_,λx G=> ?_⟩
  ·have vp:0<xs.length:=ms.2 v
   obtain⟨K,y,R⟩:=hi 0 (by omega);obtain⟨_,q,g⟩:=World.cells?_some y;rw[A] at q g;have h0:=g 0 hst;rw[ap (by omega),Nat.zero_mul] at h0;obtain⟨j,vf⟩:=xq h0;have up:a=⟨a.block,a.off,tM⟩:=by
    obtain⟨b,o,s⟩:=a;simp[Addr.add] at j⊢;exact j
   refine⟨a.block,a.off,by rw[<-up],by simpa[Addr.add] using vf,λi x z k u hu=> ?_⟩;have:=(J i x z).2 k u hu;rw[up,cY,<-Nat.add_assoc] at this;exact this
  ·obtain⟨i,z⟩:=te.1 G
   exact(J i x z).1
end
theorem Ii {H:Type}{enc:gt×cA->H}{P:lr}{w:World}{base:bh}{spare:bh->mm}{held:mm}{r:Reach}{f:bh}{t:gt}{fs:eA Field}{v:cA}{d:DataW H}{p:bj n9}(g:P.underlying t=tG (.struct fs))
  (j:Value.okWide P w r f t v)(h:DataW.Trod enc P w base spare held t v d p):∃(e:eA cA) (fuel:bh),v= .agg e/\kO enc P w base spare held fuel t e.toList=tG (d,p):=by
 obtain⟨e,rfl,_⟩:=okWide_struct g j;obtain⟨fuel,o⟩:=h;exact⟨e,fuel,rfl,by simpa[Value.cells] using o⟩
section
variable {H:Type}{enc:gt×cA->H}{w:World}{base:bh}{spare:bh->mm}{held:mm}
def dH (w:World)(ao:cG fS)(xs:bj aw):Prop:=aJ (λz:aw=>#[Z U z]) 1 w w.heap.size ao xs
theorem jM {fuel:bh}{d:bj cA}{x:DataW H×bj n9}(h:kO enc am w base spare held fuel 35 d=tG x):
  ∃(ao:cG fS) (xs:bj aw) (cap:bh),d=[.slice ao xs.length cap]/\xs.length<=eC/\dH w ao xs/\∀z∈xs,(Lit.int .i64 z).wf=tP:=by
 refine open_row _ (λz=>(Lit.int .i64 z).wf=tP) 1 (by decide) gb (by kernel_rfl) (λn d x e=> ?_) h;obtain⟨z,rfl,_,f⟩:=eE dl e;exact⟨z,rfl,f⟩
def Ins.args_in (w:World)(i:Ins):Prop:=i.ok/\∃ao cap,i.argsV= tU ao i.args.length cap/\dH w ao i.args
theorem Fe {n:bh}{o:bj cA}{x:DataW H×bj n9}(h:kO enc am w base spare held n 42 o=tG x):∃i:Ins,i.cells.toList=o/\i.args_in w:=by
 obtain⟨xs,m,_,_,q,ue,e⟩:=ft cD h;have hc:am.cellsOf 42=13:=by kernel_rfl
 have xo:xs.length=12:=ue;rw[hc] at q;obtain⟨c0,xp,e0,up⟩:=zU q;obtain⟨c1,xt,e1,ur⟩:=zU up;obtain⟨c2,xF,e2,uv⟩:=zU ur;obtain⟨c3,xT,e3,ux⟩:=zU uv;obtain⟨c4,yb,e4,vc⟩:=zU ux;obtain⟨c5,yd,e5,vd⟩:=zU vc;obtain⟨c6,ye,e6,vf⟩:=zU vd;obtain⟨c7,yi,e7,vh⟩:=zU vf;obtain⟨c8,yk,e8,vm⟩:=zU vh;obtain⟨c9,yp,e9,vp⟩:=zU vm;obtain⟨vq,yq,vr,vt⟩:=zU vp;obtain⟨vu,yr,vx,vy⟩:=zU vt;obtain⟨we,yv,wg,wj⟩:=zU vy;obtain rfl:=dr wj;subst wg vx vr e9 e8 e7 e6 e5 e4 e3 e2 e1 e0;have g0:=(e 0 _ rfl).trans (ap (show 0<xs.length by omega));obtain⟨op,r0,_,_⟩:=eE dl g0;obtain rfl:c0= .int .i64 op:=by simpa[show am.cellsOf 3=1 from by kernel_rfl] using r0
 have g1:=(e 1 _ rfl).trans (ap (show 1<xs.length by omega));obtain⟨d,r1,_,_⟩:=eE dl g1;obtain rfl:c1= .int .i64 d:=by simpa[show am.cellsOf 3=1 from by kernel_rfl] using r1
 have g2:=(e 2 _ rfl).trans (ap (show 2<xs.length by omega));obtain⟨a,r2,_,_⟩:=eE dl g2;obtain rfl:c2= .int .i64 a:=by simpa[show am.cellsOf 3=1 from by kernel_rfl] using r2
 have g3:=(e 3 _ rfl).trans (ap (show 3<xs.length by omega));obtain⟨b,r3,_,_⟩:=eE dl g3;obtain rfl:c3= .int .i64 b:=by simpa[show am.cellsOf 3=1 from by kernel_rfl] using r3
 have g4:=(e 4 _ rfl).trans (ap (show 4<xs.length by omega));obtain⟨f,r4,_,_⟩:=eE dl g4;obtain rfl:c4= .int .i64 f:=by simpa[show am.cellsOf 3=1 from by kernel_rfl] using r4
 have g5:=(e 5 _ rfl).trans (ap (show 5<xs.length by omega));obtain⟨n,r5,_,_⟩:=eE underlying2 g5;obtain rfl:c5= .int .i64 n:=by simpa[show am.cellsOf 2=1 from by kernel_rfl] using r5
 have g6:=(e 6 _ rfl).trans (ap (show 6<xs.length by omega));obtain⟨t,r6,_,_⟩:=mp iv g6;obtain rfl:c6= .string t:=by simpa[show am.cellsOf 9=1 from by kernel_rfl] using r6
 have g7:=(e 7 _ rfl).trans (ap (show 7<xs.length by omega));obtain⟨u,g,v,r7,_,wk,_⟩:=jM g7;obtain rfl:c7= .slice u g.length v:=by simpa[show am.cellsOf 35=1 from by kernel_rfl] using r7
 have g8:=(e 8 _ rfl).trans (ap (show 8<xs.length by omega));obtain⟨y,z,A,r8,_,yy,_⟩:=jM g8;obtain rfl:c8= .slice y z.length A:=by simpa[show am.cellsOf 35=1 from by kernel_rfl] using r8
 have g9:=(e 9 _ rfl).trans (ap (show 9<xs.length by omega));obtain⟨E,r9,_,_⟩:=eE dl g9;obtain rfl:c9= .int .i64 E:=by simpa[show am.cellsOf 3=1 from by kernel_rfl] using r9
 have wl:=(e 10 _ rfl).trans (ap (show 10<xs.length by omega));obtain⟨G,ws,_,_⟩:=eE dl wl;obtain rfl:vq= .int .i64 G:=by simpa[show am.cellsOf 3=1 from by kernel_rfl] using ws
 have xf:=(e 11 _ rfl).trans (ap (show 11<xs.length by omega));obtain⟨j,m',_,_,_,xj,J⟩:=ft nh xf;have yW:j.length=2:=xj;have p0:=(J 0 _ rfl).trans (ap (show 0<j.length by omega));have p1:=(J 1 _ rfl).trans (ap (show 1<j.length by omega));obtain⟨K,s0,_,_⟩:=eE dl p0;obtain⟨R,s1,_,_⟩:=eE dl p1;obtain rfl:vu= .int .i64 K:=by simpa[show am.cellsOf 3=1 from by kernel_rfl,show am.cellsOf 40=2 from by kernel_rfl] using s0
 obtain rfl:we= .int .i64 R:=by simpa[show am.cellsOf 3=1 from by kernel_rfl,show am.cellsOf 40=2 from by kernel_rfl] using s1
 exact⟨⟨op,d,a,b,f,n,t,.slice u g.length v,.slice y z.length A,E,G,K,R,g⟩,rfl,⟨⟨_,_,rfl⟩,_,_,_,rfl⟩,_,_,rfl,wk⟩
structure Vr where
 ptr:mm
 tgt:bm
 cls:aw
def Vr.cells (v:Vr):eA cA:=#[ua v.ptr,tS v.tgt,Z U v.cls]
theorem Dr {n:bh}{e:bj cA}{x:DataW H×bj n9}(h:kO enc am w base spare held n 34 e=tG x):∃v:Vr,v.cells.toList=e/\True:=by
 obtain⟨xs,m,_,_,f,y,g⟩:=ft underlying34 h;have z:am.cellsOf 34=3:=by kernel_rfl
 have up:xs.length=2:=y;rw[z] at f;obtain⟨c0,ur,A,E⟩:=zU f;obtain⟨c1,uv,G,J⟩:=zU E;obtain⟨c2,ux,K,R⟩:=zU J;obtain rfl:=dr R;subst K G A;have g0:=(g 0 _ rfl).trans (ap (show 0<xs.length by omega));have g1:=(g 1 _ rfl).trans (ap (show 1<xs.length by omega));obtain⟨d,m',_,_,_,ue,j⟩:=ft eM g0;have vc:d.length=2:=ue;have p0:=(j 0 _ rfl).trans (ap (show 0<d.length by omega));have p1:=(j 1 _ rfl).trans (ap (show 1<d.length by omega));obtain⟨o,s0,_⟩:=DataW.trod_bool nj p0;obtain⟨q,s1,_,_⟩:=mp iv p1;obtain⟨t,s2,_,_⟩:=eE dl g1;have z1:am.cellsOf 4=1:=by kernel_rfl
 have z2:am.cellsOf 9=1:=by kernel_rfl
 have z3:am.cellsOf 3=1:=by kernel_rfl
 have u:am.cellsOf 32=2:=by kernel_rfl
 obtain rfl:c0= .bool o:=by simpa[z1,u] using s0
 obtain rfl:c1= .string q:=by simpa[z2,u] using s1
 obtain rfl:c2= .int .i64 t:=by simpa[z3] using s2
 exact⟨⟨o,q,t⟩,rfl,trivial⟩
structure dx.inn (w:World)(c:dx):Prop where
 row:cZ w w.heap.size c.insA c.ins
 args:∀x∈c.ins,x.args_in w
 len:c.ins.length<=eC
 vars:∃vs:bj Vr,vs.length=c.nvars/\aJ Vr.cells 3 w w.heap.size c.varsA vs
 nvars:c.nvars<=eC
 nfrom:c.nfrom<=eC
 froms:∃fs:bj aw,fs.length=c.nfrom/\dH w c.fromA fs
end
theorem Ins.args_in.below {w w':World}{i:Ins}(h:i.args_in w)(d:aE w.heap.size w w'):i.args_in w':=by
 obtain⟨e,ao,cap,f,g⟩:=h;refine⟨e,ao,cap,f,λj=> ?_⟩;obtain⟨b,o,q,t,u⟩:=aJ.below g d (cg _) j;exact⟨b,o,q,cH t d.size,u⟩
theorem aJ.grow {α:Type}{cells:α->eA cA}{d:bh}{w w':World}{ao:cG fS}{xs:bj α}(h:aJ cells d w w.heap.size ao xs)(e:aE w.heap.size w w'):aJ cells d w' w'.heap.size ao xs:=by
 intro f;obtain⟨b,g,j,o,q⟩:=h.below e (cg _) f;exact⟨b,g,j,cH o e.size,q⟩
theorem dx.inn.below {w w':World}{c:dx}(h:c.inn w)(d:aE w.heap.size w w'):c.inn w':=
 ⟨aJ.grow (cells:=Ins.cells) h.row d,λx e=>(h.args x e).below d,h.len,let ⟨f,a,b⟩:=h.vars;⟨f,a,b.grow d⟩,h.nvars,h.nfrom,let ⟨fs,a,b⟩:=h.froms;⟨fs,a,aJ.grow b d⟩⟩
end
abbrev Ty:=mm×bm
def bM:Ty:=(tR,lO)
structure Fd where
 nm:bm
 ptr:mm
 tgt:bm
 ln:aw
 cl:aw
def Fd.cells (f:Fd):eA cA:=#[tS f.nm,ua f.ptr,tS f.tgt,Z U f.ln,Z U f.cl]
def Fd.ty (f:Fd):Ty:=(f.ptr,f.tgt)
def Vr.ty (v:Vr):Ty:=(v.ptr,v.tgt)
structure St where
 s:Fb
 fs:bj Fd
def St.cells (s:St):eA cA:=s.s.cells
structure Fn where
 c:dx
 vs:bj Vr
 frm:bj aw
 mds:bj (bj aw)
def Fn.cells (f:Fn):eA cA:=f.c.cells
def Fn.ret (f:Fn):Ty:=(f.c.rp,f.c.rto)
structure Mo where
 sA:cG fS
 sC:bh
 fA:cG fS
 fC:bh
 ss:bj St
 fs:bj Fn
def Mo.cells (m:Mo):eA cA:=#[tU m.sA m.ss.length m.sC,tU m.fA m.fs.length m.fC]
structure Fn.inn (w:World)(f:Fn):Prop where
 code:f.c.inn w
 nm:f.c.nm.size<=eC
 nvars:f.c.nvars=f.vs.length
 vars:aJ Vr.cells 3 w w.heap.size f.c.varsA f.vs
 nfrom:f.c.nfrom=f.frm.length
 frm:dH w f.c.fromA f.frm
 nmds:f.mds.length=f.c.ins.length
 mds:∀(k:bh)(i:Ins)(l:bj aw),f.c.ins[k]?=tG i->f.mds[k]?=tG l->∃ao cap,i.modeV= tU ao l.length cap/\dH w ao l
structure St.inn (w:World)(s:St):Prop where
 nf:s.s.nf=s.fs.length
 row:aJ Fd.cells 5 w w.heap.size s.s.fA s.fs
 len:s.fs.length<=eC
 nm:s.s.nm.size<=eC
 fnm:∀f∈s.fs,f.nm.size<=eC
structure Mo.inn (w:World)(m:Mo):Prop where
 srow:aJ St.cells 4 w w.heap.size m.sA m.ss
 frow:aJ Fn.cells 8 w w.heap.size m.fA m.fs
 sin:∀s∈m.ss,s.inn w
 fin:∀f∈m.fs,f.inn w
 ns:m.ss.length<=eC
 nf:m.fs.length<=eC
theorem Fn.inn.below {w w':World}{f:Fn}(h:f.inn w)(d:aE w.heap.size w w'):f.inn w':=
 ⟨h.code.below d,h.nm,h.nvars,h.vars.grow d,h.nfrom,aJ.grow h.frm d,h.nmds,λk i l e g=>by
  obtain⟨ao,cap,j,o⟩:=h.mds k i l e g;exact⟨ao,cap,j,aJ.grow o d⟩⟩
theorem St.inn.below {w w':World}{s:St}(h:s.inn w)(d:aE w.heap.size w w'):s.inn w':=⟨h.nf,h.row.grow d,h.len,h.nm,h.fnm⟩
theorem Mo.inn.below {w w':World}{m:Mo}(h:m.inn w)(d:aE w.heap.size w w'):m.inn w':=
 ⟨h.srow.grow d,h.frow.grow d,λs e=>(h.sin s e).below d,λf g=>(h.fin f g).below d,h.ns,h.nf⟩
section
variable {P:lr}{ops:eA mS}{Q:Exit->Act->World->Prop}{md:i8}{S:World->Prop}{k:bh}
inductive jv (md:i8) (ops:eA mS) (k:bh) (listed:eA mm):bh->Prop
 |last {i:bh} {o:mS} {e:Edge}:listed[i]?=tG tR->ops[k]?=tG o->e∈o.after->gO md e=tP->e.on=i->jv md ops k listed i
 |step {i j:bh} {o:mS} {e:Edge}:listed[i]?=tG tR->ops[j]?=tG o->e∈o.after->gO md e=tP->e.on=i->jv md ops k listed j->jv md ops k listed i
theorem jv.un {listed:eA mm}{i:bh}(h:jv md ops k listed i):listed[i]?=tG tR:=by cases h<;>assumption
theorem mh {listed:eA mm}{i j:bh}{o:mS}{e:Edge}(g:listed[i]?=tG tR)(h:ops[j]?=tG o)(q:e∈o.after)(t:gO md e=tP)(hi:e.on=i):j∉fg md ops listed:=by
 intro u;obtain⟨_,x,d,v⟩:=mem_ready.1 u;rw[h] at d;obtain rfl:=cE d;have f:=v e q t;rw[hi] at f;simp[g] at f
theorem jv.notReady {listed:eA mm}{i:bh}(h:jv md ops k listed i):k∉fg md ops listed:=by
 induction h with
 |last d e f g hi=>exact mh d e f g hi
 |step _ _ _ _ _ _ ih=>exact ih
theorem jv.set {listed:eA mm}{i:bh}(h:jv md ops k listed i){j:bh}(t:j∈fg md ops listed)(q:j≠i):jv md ops k (listed.setIfInBounds j tP) i:=by
 induction h with
 |last d f g o hi=>exact .last (by rw[mL q];exact d) f g o hi
 |step d f g o hi u ih=>exact .step (by rw[mL q];exact d) f g o hi (ih (λe=>by subst e;exact mh d f g o hi t))
def lm (md:i8)(ops:eA mS)(k:bh)(listed:eA mm):bh->bh->mm
 |0,_=>tR
 |f+1,i=>(listed[i]?==tG tR)&&((ops[k]?).any (λo=>o.after.any λe=>gO md e&&e.on==i)||
   (du ops.size).any λj=>(ops[j]?).any (λo=>o.after.any λe=>gO md e&&e.on==i)&&lm md ops k listed f j)
theorem zq {listed:eA mm}:∀(f i:bh),lm md ops k listed f i=tP->jv md ops k listed i
 |0,_,h=>by simp[lm] at h
 |f+1,i,h=>by
  simp only[lm,fj,js,tt,kh,qr,qv] at h;obtain⟨t,u⟩:=h;rcases u with⟨o,d,e,g,q,hi⟩|⟨j,_,⟨o,d,e,g,q,hi⟩,v⟩
  ·exact .last t d g q hi
  ·exact .step t d g q hi (zq f j v)
end
section
variable {P:lr}{ops:eA mS}{md:i8}{C:World->Prop}{Q:Exit->Act->World->Prop}{k:bh}
def si (P:lr)(md:i8)(ops:eA mS)(C:World->Prop)(Q:Exit->Act->World->Prop)(k:bh):bh->eA mm->Act->Prop
 |0,_,_=>me
 |fuel+1,listed,a=>(fg md ops listed=[]->me)/\
  ∀i∈fg md ops listed,if i=k then(∀w,C w->wpOp P ops Q i (sy P md ops Q fuel (listed.setIfInBounds i tP)) a w) else qOp P ops C i (si P md ops C Q k fuel (listed.setIfInBounds i tP)) a
theorem sj:∀(fuel:bh)(listed:eA mm)(a:Act)(w:World),C w->si P md ops C Q k fuel listed a->sy P md ops Q fuel listed a w
 |0,_,_,_,_,h=>h.elim
 |fuel+1,listed,a,w,f,h=>by
  refine⟨λh0=>(h.1 h0).elim,λi hi=> ?_⟩;have d:=h.2 i hi
  by_cases e:i=k
  ·rw[cI e] at d
   exact d w f
  ·rw[bx e] at d
   exact wpOp_of_qOp f (λg w' j o=>sj fuel _ g w' j o) d
theorem xu {i:bh}{f:mS}{v:cA}(hi:ops[i]?=tG f)(E:∀(j:bh)(o:mS) q b,ops[j]?=tG o->o.op≠ .select q b):
  ∀(fuel:bh)(listed:eA mm)(a:Act),
   (∀j d,ops[j]?=tG d->j≠i->listed.getD j tP=tR->(∀e∈d.after,gO md e=tP->e.on≠i)->f.apart ops d=tP)->
   i∈fg md ops listed->jv md ops k listed i->YieldsIn P ops C f v a->
   si P md ops C Q k fuel (listed.setIfInBounds i tP) (a.put f.dst v)->si P md ops C Q k (fuel+1) listed a:=by
 intro fuel
 induction fuel with
 |zero=>intro listed a _ _ _ _ H;exact H.elim
 |succ fuel ih=>
  intro listed a G z A J H;refine⟨λh=>(by rw[h] at z;cases z),λj t=> ?_⟩;have u:j≠k:=λe=>by subst e;exact A.notReady t
  rw[bx u]
  by_cases g:j=i
  ·subst g;exact J.qOp hi H
  ·have K:=H.2 j (ready_mono t g)
   rw[bx u] at K;obtain⟨R,d,y,vd⟩:=mem_ready.1 t;have up:∀e∈d.after,gO md e=tP->e.on≠i:=λe he hb ur=>mh A.un y he hb ur t;have h2:=qOp_put y (G j d y g R up) (λq b=>E i f q b hi) (λq b=>E j d q b y) J K;have uv:∀k x,ops[k]?=tG x->k≠i->(listed.setIfInBounds j tP).getD k tP=tR->
     (∀e∈x.after,gO md e=tP->e.on≠i)->f.apart ops x=tP:=λk x hk ux ue vc=>by
    refine G k x hk ux ?_ vc
    by_cases u:j=k
    ·subst u;exact R
    ·rw[getD_set_ne tP u] at ue;exact ue
   refine qOp_mono (λa' h3=>ih (listed.setIfInBounds j tP) a' uv (ready_mono z (Ne.symm g)) (A.set t g) h3.1 ?_) h2;rw[Array.setIfInBounds_comm _ _ g];exact h3.2
def vZ (md:i8)(ops:eA mS)(i k:bh):mm:=
 (du (k-i)).any λd=>(ops[i+1+d]?).any λo=>o.after.any λe=>gO md e&&e.on==i
theorem zt {listed:eA mm}:∀(n i:bh),i+n=k->0<n->(∀j,i<=j->j<k->vZ md ops j k=tP/\listed[j]?=tG tR)->jv md ops k listed i
 |0,_,_,h0,_=>fL h0 (Nat.lt_irrefl _)
 |n+1,i,G,_,h=>by
  obtain⟨g,q⟩:=h i (cg _) (by omega);unfold vZ at g;simp only[kh,oc,qr,qv,fj,tt] at g;obtain⟨d,A,o,f,e,t,u,hi⟩:=g
  by_cases v:i+1+d=k
  ·rw[v] at f
   exact .last q f t u hi
  ·exact .step q f t u hi (leads_links_aux n (i+1+d) (by omega) (by omega) λj E x=>h j (by omega) x)
where
 leads_links_aux {listed:eA mm}:∀(m i:bh),i<k->k-i<=m->(∀j,i<=j->j<k->vZ md ops j k=tP/\listed[j]?=tG tR)->jv md ops k listed i
  |0,i,g,q,_=>fL q (by omega)
  |m+1,i,g,q,h=>by
   obtain⟨y,z⟩:=h i (cg _) g;unfold vZ at y;simp only[kh,oc,qr,qv,fj,tt] at y;obtain⟨d,A,o,f,e,t,u,hi⟩:=y
   by_cases v:i+1+d=k
   ·rw[v] at f
    exact .last z f t u hi
   ·exact .step z f t u hi (leads_links_aux m (i+1+d) (by omega) (by omega) λj E x=>h j (by omega) x)
def lq (md:i8)(ops:eA mS):bh->bh->eA mm->mm
 |0,i,listed=>fg md ops listed==[i]
 |n+1,i,listed=>(fg md ops listed).contains i&&n3 md ops listed i&&vZ md ops i (i+n+1)&&listed[i]?==tG tR&&lq md ops n (i+1) (listed.setIfInBounds i tP)
theorem qy {md:i8}{ops:eA mS}:∀(n i:bh)(listed:eA mm),lq md ops n i listed=tP->∀j,i<=j->j<i+n->vZ md ops j (i+n)=tP/\listed[j]?=tG tR
 |0,_,_,_,j,g,d=>fL d (by omega)
 |n+1,i,listed,h,j,g,d=>by
  simp only[lq,fj,tt] at h;obtain⟨⟨⟨⟨_,_⟩,o⟩,q⟩,t⟩:=h
  by_cases e:j=i
  ·subst e;exact⟨o,q⟩
  ·obtain⟨u,f⟩:=qy n (i+1) _ t j (by omega) (by omega)
   refine⟨by rw[show i+(n+1)=i+1+n from by omega];exact u, ?_⟩;rw[mL (λv=>e v.symm)] at f;exact f
def xw:bh->bh->eA mm->eA mm
 |0,i,listed=>listed.setIfInBounds i tP
 |n+1,i,listed=>xw n (i+1) (listed.setIfInBounds i tP)
theorem su {g:Act->Prop}(u:gw ops=tP){fuel:bh}:∀(l:bj mS)(i:bh)(listed:eA mm)(a:Act),i+l.length=k->(∀j,j<l.length->l[j]?=ops[i+j]?)->
  lq md ops l.length i listed=tP->(∀a w,g a->C w->wpOp P ops Q k (sy P md ops Q fuel (xw l.length i listed)) a w)->
  rx P ops C g l a->si P md ops C Q k (l.length+1+fuel) listed a
 |[],i,listed,a,e,_,d,q,h=>by
  have y:i=k:=by simpa using e
  subst y;simp only[mC,lq,tt] at d;rw[show([]:bj mS).length+1+fuel=fuel+1 from by simp;omega];refine⟨λh0=>(by rw[d] at h0;cases h0),λj t=> ?_⟩;rw[d] at t;obtain rfl:=cU.1 t;rw[cI rfl];intro w z;exact q a w h z
 |o::l,i,listed,a,e,x,d,q,h=>by
  have A:=d;have h0:ops[i]?=tG o:=by have:=x 0 (by simp);simpa using this.symm
  simp only[eV,lq,fj] at d;obtain⟨⟨⟨⟨E,G⟩,_⟩,_⟩,J⟩:=d;have hst:qOp P ops C i (rx P ops C g l) a:=by unfold qOp;simp only[h0];exact h
  obtain⟨v,K,R⟩:=yieldsIn_of_qOp h0 hst;have f:(o::l).length=l.length+1:=rfl;rw[show(o::l).length+1+fuel=(l.length+1+fuel)+1 from by rw[f];omega];refine xu h0 (Region.noSelect_spec u) _ listed a (Region.free_spec h0 G) (by simpa using E) ?_ K
   (su u l (i+1) _ _ (by rw[f] at e;omega) (λj t=>by have:=x (j+1) (by rw[f];omega);simpa[Nat.add_assoc,rl 1 j] using this) J q R)
  refine zt (o::l).length i e (by rw[f];omega) λj h1 h2=> ?_;have:=qy _ _ _ A j h1 (by omega);rw[e] at this;exact this
theorem zu {fuel:bh}{listed:eA mm}{a:Act}{w:World}(l:bj mS)(i:bh)(f:gw ops=tP)(g:lq md ops l.length i listed=tP)(o:(ops.toList.drop i).take l.length=l)(C:World->Prop)(hC:C w)(d:eA mm)
  (q:xw l.length i listed=d)
  (h:rx P ops C (λe=>∀w,C w->wpOp P ops Q (i+l.length) (sy P md ops Q fuel d) e w) l a):sy P md ops Q (l.length+1+fuel) listed a w:=by
 refine sj (k:=i+l.length) _ _ _ _ hC (su f l i listed a rfl (λj t=> ?_) g (λe w' u v=> ?_) h)
 ·have x:l[j]?=((ops.toList.drop i).take l.length)[j]? :=by rw[o]
  rw[x,mz,cI t,re];simp
 ·rw[q];exact u w' v
theorem BN {listed:eA mm}{a:Act}{w:World}(l:bj mS)(i:bh)(e:gw ops=tP)(f:Region.lexFrom md ops l.length i listed=tP)(g:ops.toList.drop i=l)(C:World->Prop)(hC:C w)
  (h:rx P ops C (λd=>∀w',C w'->Q .normal d w') l a):sy P md ops Q l.length listed a w:=by
 refine wpAny_of_quiet (Q:=λd=>∀w',C w'->Q .normal d w') (λ_ w' o h=>h w' o) _ _ _ _ hC (wpAnyQ_lex e l i listed a (λj=> ?_) f h);rw[<-g,re];simp
section
variable {l:bj mS}
theorem qV {id:bh}{a:Act}{w:World}(n fuel:bh)(e:l.length=n+1+fuel)(f:P.follows .mixedOrders=tP)(g:gw l.toArray=tP)(j:lq .any l.toArray n 0 (eI (n+1+fuel) tR)=tP)(C:World->Prop)(hC:C w.drew)
  (h:rx P l.toArray C (λo=>∀w,C w->wpOp P l.toArray Q n (sy P .any l.toArray Q fuel (xw n 0 (eI (n+1+fuel) tR))) o w) (l.take n) a):(Code.region id l.toArray tP).wp P Q a w:=by
 refine wp_region_any f ?_;have d:(l.take n).length=n:=by rw[ee];omega
 have q:l.toArray.size=n+1+fuel:=by simpa using e
 rw[q];have:=zu (P:=P) (ops:=l.toArray) (md:= .any) (Q:=Q) (fuel:=fuel) (listed:=eI (n+1+fuel) tR) (a:=a) (w:=w.drew) (l.take n) 0 g (by rw[d];exact j) (by rw[d];simp) C hC _ rfl (by rw[d,cL];exact h);rw[d] at this;exact this
theorem bu {listed:eA mm}{a:Act}{w:World}{d:bh}(i:bh)(o:l.length=i+d)(f:gw l.toArray=tP)(g:Region.lexFrom md l.toArray d i listed=tP)(C:World->Prop)(hC:C w)
  (h:rx P l.toArray C (λj=>∀w',C w'->Q .normal j w') (l.drop i) a):sy P md l.toArray Q d listed a w:=by
 have e:(l.drop i).length=d:=by rw[List.length_drop];omega
 have:=BN (P:=P) (ops:=l.toArray) (md:=md) (Q:=Q) (listed:=listed) (a:=a) (w:=w) (l.drop i) i f (by rw[e];exact g) (by simp) C hC h;rw[e] at this;exact this
end
end
section
variable {P:lr}{ops:eA mS}{Q:Exit->Act->World->Prop}{md:i8}{S:World->Prop}{k:bh}
def dI (P:lr)(md:i8)(ops:eA mS)(Q:Exit->Act->World->Prop)(S:World->Prop)(k:bh):bh->eA mm->Act->World->Prop
 |0,_,_,_=>me
 |fuel+1,listed,a,w=>
  (fg md ops listed=[]->me)/\
  ∀i∈fg md ops listed,wpOp P ops Q i (λd w'=>if i=k then sy P md ops Q fuel (listed.setIfInBounds i tP) d w' else S w'/\dI P md ops Q S k fuel (listed.setIfInBounds i tP) d w') a w
theorem fq:∀(fuel:bh)(listed:eA mm)(a:Act)(w:World),dI P md ops Q S k fuel listed a w->sy P md ops Q fuel listed a w
 |0,_,_,_,h=>h.elim
 |fuel+1,_,_,_,h=>⟨λh0=>(h.1 h0).elim,λi hi=>wpOp_mono (λf w' d=>by
   by_cases e:i=k
   ·rw[cI e] at d;exact d
   ·rw[bx e] at d;exact fq fuel _ f w' d.2) (h.2 i hi)⟩
theorem xz {i:bh}{d:mS}{v:cA}(hi:ops[i]?=tG d)(G:∀(j:bh)(o:mS) q b,ops[j]?=tG o->o.op≠ .select q b)
  (hQ:∀c a w,Q (.panic c) (a.put d.dst v) w->Q (.panic c) a w):
  ∀(fuel:bh)(listed:eA mm)(a:Act)(w:World),
   (∀j f,ops[j]?=tG f->j≠i->listed.getD j tP=tR->(∀e∈f.after,gO md e=tP->e.on≠i)->d.apart ops f=tP)->
   i∈fg md ops listed->jv md ops k listed i->YieldsIf P ops S d v a->S w->
   dI P md ops Q S k fuel (listed.setIfInBounds i tP) (a.put d.dst v) w->dI P md ops Q S k (fuel+1) listed a w:=by
 intro fuel
 induction fuel with
 |zero=>intro listed a w _ _ _ _ _ H;exact H.elim
 |succ fuel ih=>
  intro listed a w J x y K R H;have ur:i≠k:=λe=>by subst e;exact y.notReady x
  refine⟨λh=>(by rw[h] at x;cases x),λj t=> ?_⟩
  by_cases g:j=i
  ·subst g;exact K.wpOp hi R (by rw[bx ur];exact⟨R,H⟩)
  ·have z:j≠k:=λe=>by subst e;exact y.notReady t
   have h1:=H.2 j (ready_mono t g);simp only[bx z] at h1⊢;obtain⟨ue,f,A,vh⟩:=mem_ready.1 t;have uv:∀e∈f.after,gO md e=tP->e.on≠i:=λe he hb ux=>mh y.un A he hb ux t;have h2:=wpOp_putIf A (J j f A g ue uv) (λq b=>G i d q b hi) (λq b=>G j f q b A) hQ K h1;have vc:∀k u,ops[k]?=tG u->k≠i->(listed.setIfInBounds j tP).getD k tP=tR->
     (∀e∈u.after,gO md e=tP->e.on≠i)->d.apart ops u=tP:=λk u hk vd up vf=>by
    refine J k u hk vd ?_ vf
    by_cases z:j=k
    ·subst z;exact ue
    ·rw[getD_set_ne tP z] at up;exact up
   refine wpOp_mono (λa' w' E=>⟨E.2.1,ih (listed.setIfInBounds j tP) a' w' vc (ready_mono x (Ne.symm g)) (y.set t g) E.1 E.2.1 ?_⟩) h2;rw[Array.setIfInBounds_comm _ _ g];exact E.2.2
theorem lu {i:bh}{d:mS}{v:cA}{fuel:bh}{listed:eA mm}{a:Act}{w:World}(hi:ops[i]?=tG d)
  (e:gw ops=tP)(f:n3 md ops listed i=tP)(g:(fg md ops listed).contains i=tP)(j:lm md ops k listed ops.size i=tP)
  (o:∀c a w,Q (.panic c) (a.put d.dst v) w->Q (.panic c) a w)(q:YieldsIf P ops S d v a)(t:S w)
  (h:dI P md ops Q S k fuel (listed.setIfInBounds i tP) (a.put d.dst v) w):dI P md ops Q S k (fuel+1) listed a w:=
 xz hi (Region.noSelect_spec e) o fuel listed a w (Region.free_spec hi f) (by simpa using g) (zq _ _ j) q t h
theorem BO {i:bh}{o:mS}{fuel:bh}{listed:eA mm}{a:Act}{w:World}(e:fg md ops listed=[i])(g:i≠k)(q:ops[i]?=tG o)
  (h:∀d:Act->World->Prop,(∀a w,S w->dI P md ops Q S k fuel (listed.setIfInBounds i tP) a w->d a w)->if gx o (pk ops a.tmps)=tP then nd P o a w d Q else d (a.put o.dst undef) w):
  dI P md ops Q S k (fuel+1) listed a w:=by
 refine⟨λh0=>(by rw[e] at h0;cases h0),λj f=> ?_⟩;rw[e] at f;obtain rfl:=cU.1 f;simp only[bx g];exact wpOp_step q (λd t=>h d (λa w u v=>t a w ⟨u,v⟩))
theorem Ff {o:mS}{fuel:bh}{listed:eA mm}{a:Act}{w:World}(e:fg md ops listed=[k])(g:ops[k]?=tG o)
  (h:∀d:Act->World->Prop,(∀a w,sy P md ops Q fuel (listed.setIfInBounds k tP) a w->d a w)->if gx o (pk ops a.tmps)=tP then nd P o a w d Q else d (a.put o.dst undef) w):
  dI P md ops Q S k (fuel+1) listed a w:=by
 refine⟨λh0=>(by rw[e] at h0;cases h0),λj f=> ?_⟩;rw[e] at f;obtain rfl:=cU.1 f;simp only[lj];exact wpOp_step g (λd q=>h d q)
theorem aj {id:bh}{a:Act}{w:World}(k:bh)(S:World->Prop)(d:P.follows .mixedOrders=tP)
  (h:dI P .any ops Q S k ops.size (eI ops.size tR) a w.drew):(Code.region id ops tP).wp P Q a w:=
 wp_region_any d (fq _ _ _ _ h)
theorem zw {o:mS}{a:Act}(h:gx o (pk ops a.tmps)=tP)(e:gt)(x:tE)(q:o.op= .load e x)
  (g:fS)(t:a.eval x= tW (tG g))(f:eA cA)(d:TypeDesc)(v:∀w,S w->∀j u,f.toList[j]?=tG u->w.cell? (g.add j)=tG u)
  (y:P.underlying e=tG d)(z:(match d with| .struct _| .array _ _=>tP|_=>tR)=tP)(hi:(P.info? e).map (·.size)=tG f.size):YieldsIf P ops S o (ub f) a:=by
 refine Or.inl ⟨h,λw A=> ?_⟩;unfold execOp;simp only[q,t,Instr.loadAt,Instr.sureAddr,fX,sn,mu,jq w g e f d (v w A) y z hi]
theorem zT {C:World->Prop}(i:bh){d:mS}{v:cA}{fuel:bh}{listed:eA mm}{a:Act}{w:World}(hi:ops[i]?=tG d)
  (hC:∀w,S w->C w)
  (h:dI P md ops Q S k fuel (listed.setIfInBounds i tP) (a.put d.dst v) w)
  (f:∀w,C w->(execOp a.eval d).run P w= .ok (.value v) w:=by intro w e;go_simp;try rfl)
  (e:gx d (pk ops a.tmps)=tP:=by rfl)
  (g:gw ops=tP:=by kernel_rfl)(j:n3 md ops listed i=tP:=by kernel_rfl)(o:(fg md ops listed).contains i=tP:=by kernel_rfl)(q:lm md ops k listed ops.size i=tP:=by kernel_rfl)
  (t:∀c a w,Q (.panic c) (a.put d.dst v) w->Q (.panic c) a w:=by exact λ_ _ _ h=>h)(u:S w:=by assumption):dI P md ops Q S k (fuel+1) listed a w:=
 lu hi g j o q t (.inl ⟨e,λw h=>f w (hC w h)⟩) u h
theorem zN (i:bh){d:mS}{fuel:bh}{listed:eA mm}{a:Act}{w:World}(hi:ops[i]?=tG d)
  (h:dI P md ops Q S k fuel (listed.setIfInBounds i tP) (a.put d.dst undef) w)
  (e:gx d (pk ops a.tmps)=tR:=by rfl)
  (f:gw ops=tP:=by kernel_rfl)(g:n3 md ops listed i=tP:=by kernel_rfl)(j:(fg md ops listed).contains i=tP:=by kernel_rfl)(o:lm md ops k listed ops.size i=tP:=by kernel_rfl)
  (q:∀c a w,Q (.panic c) (a.put d.dst undef) w->Q (.panic c) a w:=by exact λ_ _ _ h=>h)(t:S w:=by assumption):dI P md ops Q S k (fuel+1) listed a w:=
 lu hi f g j o q (.inr ⟨e,rfl⟩) t h
theorem zO (i:bh){o:mS}{fuel:bh}{listed:eA mm}{a:Act}{w:World}(e:ops[i]?=tG o)
  (h:∀d:Act->World->Prop,(∀a w,S w->dI P md ops Q S k fuel (listed.setIfInBounds i tP) a w->d a w)->nd P o a w d Q)
  (f:gx o (pk ops a.tmps)=tP:=by rfl)(g:fg md ops listed=[i]:=by kernel_rfl)(j:i≠k:=by decide):
  dI P md ops Q S k (fuel+1) listed a w:=BO g j e λd q=>by rw[cI f];exact h d q
theorem zK {o:mS}{fuel:bh}{listed:eA mm}{a:Act}{w:World}(e:ops[k]?=tG o)
  (h:∀d:Act->World->Prop,(∀a w,sy P md ops Q fuel (listed.setIfInBounds k tP) a w->d a w)->nd P o a w d Q)
  (f:gx o (pk ops a.tmps)=tP:=by rfl)(g:fg md ops listed=[k]:=by kernel_rfl):
  dI P md ops Q S k (fuel+1) listed a w:=Ff g e λd j=>by rw[cI f];exact h d j
theorem zL (i:bh){e:mS}{fuel:bh}{listed:eA mm}{a:Act}{w:World}(hi:ops[i]?=tG e)(g:gt){x:tE}(o:fS){f:eA cA}{d:TypeDesc}
  (q:∀w,S w->∀j u,f.toList[j]?=tG u->w.cell? (o.add j)=tG u)(t:P.underlying g=tG d)
  (h:dI P md ops Q S k fuel (listed.setIfInBounds i tP) (a.put e.dst (ub f)) w)
  (v:e.op= .load g x:=by rfl)(y:a.eval x= tW (tG o):=by rfl)
  (z:(match d with| .struct _| .array _ _=>tP|_=>tR)=tP:=by rfl)(A:(P.info? g).map (·.size)=tG f.size:=by kernel_rfl)
  (E:gx e (pk ops a.tmps)=tP:=by rfl)
  (G:gw ops=tP:=by kernel_rfl)(J:n3 md ops listed i=tP:=by kernel_rfl)(K:(fg md ops listed).contains i=tP:=by kernel_rfl)(R:lm md ops k listed ops.size i=tP:=by kernel_rfl)
  (hQ:∀c a w,Q (.panic c) (a.put e.dst (ub f)) w->Q (.panic c) a w:=by exact λ_ _ _ h=>h)(hS:S w:=by assumption):dI P md ops Q S k (fuel+1) listed a w:=
 lu hi G J K R hQ (zw E g x v o y f d q t z A) hS h
end
theorem aN {P:lr}{fn:Func}{p u:Tmp}{d:gt}(h:fn.results=#[.cell p d,.tmp u])(tmps:eA cA)(w:World)(g:bh)(t:gt)(f:eA cA)(j:bh×bh)(fs:eA Field)
  (o:tmps.getD p undef= tW (tG ⟨g,0,tM⟩))(q:w.heap[g]?=tG (uc f t j))
  (v:P.underlying d=tG (.struct fs))(hi:(P.info? d).map (·.size)=tG f.size):
  (th fn tmps).run P w= .ok (.tuple #[ub f,tmps.getD u undef]) w:=by
 rw[results_cell_tmp h,o];have e:=oy w g t d f j _ q v rfl hi;simp only[asAddr,sn,mu,e]
theorem iH {P:lr}{fn:Func}{p u:Tmp}{d:gt}(h:fn.results=#[.tmp u,.cell p d])(tmps:eA cA)(w:World)(g:bh)(t:gt)(f:eA cA)(j:bh×bh)(fs:eA Field)
  (o:tmps.getD p undef= tW (tG ⟨g,0,tM⟩))(q:w.heap[g]?=tG (uc f t j))
  (v:P.underlying d=tG (.struct fs))(hi:(P.info? d).map (·.size)=tG f.size):
  (th fn tmps).run P w= .ok (.tuple #[tmps.getD u undef,ub f]) w:=by
 have e:=oy w g t d f j _ q v rfl hi;simp only[th,h];simp only[tj] at o;simp[fX,mT,o,asAddr,e]
theorem dF {P:lr}{fn:Func}{p u:Tmp}{d f:gt}(h:fn.results=#[.cell p d,.cell u f])(tmps:eA cA)(w:World)(g q:bh)(t t2:gt)(j o:eA cA)(v x:bh×bh)(fs A:eA Field)
  (y:tmps.getD p undef= tW (tG ⟨g,0,tM⟩))(E:w.heap[g]?=tG (uc j t v))(z:tmps.getD u undef= tW (tG ⟨q,0,tM⟩))(G:w.heap[q]?=tG (uc o t2 x))
  (J:P.underlying d=tG (.struct fs))(hi:(P.info? d).map (·.size)=tG j.size)(K:P.underlying f=tG (.struct A))(R:(P.info? f).map (·.size)=tG o.size):
  (th fn tmps).run P w= .ok (.tuple #[ub j,ub o]) w:=by
 have e:=oy w g t d j v _ E J rfl hi;have e2:=oy w q t2 f o x _ G K rfl R;simp only[th,h];simp only[tj] at y z;simp[fX,mT,y,z,asAddr,e,e2]
theorem qz {N:bh}{w W:World}(h:aE N w W)(n:bh):aE N w (W.drewN n):=⟨h.os,h.tape,h.output,h.size,h.block⟩
theorem bf {W:World}{b:bh}{x y u v:cA}{t:gt}(h:W.heap[b]?=tG (uc #[x,y] t (0,0))):((W.setCell ⟨b,0,tM⟩ u).setCell ⟨b,1,tM⟩ v).heap[b]?=tG (uc #[u,v] t (0,0)):=by
 have d:=bk W b 0 _ _ u h;have e:=bk _ b 1 _ _ v d;simpa using e
theorem jw {W:World}{g:bh}{a b c d u0 u1 u2 u3:cA}{t:gt}(h:W.heap[g]?=tG (uc #[a,b,c,d] t (0,0))):
  ((((W.setCell ⟨g,0,tM⟩ u0).setCell ⟨g,1,tM⟩ u1).setCell ⟨g,2,tM⟩ u2).setCell ⟨g,3,tM⟩ u3).heap[g]?=tG (uc #[u0,u1,u2,u3] t (0,0)):=by
 have e:=bk W g 0 _ _ u0 h;have f:=bk _ g 1 _ _ u1 e;have j:=bk _ g 2 _ _ u2 f;have o:=bk _ g 3 _ _ u3 j;exact o
theorem sw {N B:bh}{w W:World}(h:aE N w W)(d:N<=B)(u0 u1 u2 u3:cA):aE N w ((((W.setCell ⟨B,0,tM⟩ u0).setCell ⟨B,1,tM⟩ u1).setCell ⟨B,2,tM⟩ u2).setCell ⟨B,3,tM⟩ u3):=
 (((h.setCell d _).setCell d _).setCell d _).setCell d _
theorem jy {W:World}{g:bh}{a b c d e u0 u1 u2 u3 u4:cA}{t:gt}(h:W.heap[g]?=tG (uc #[a,b,c,d,e] t (0,0))):
  (((((W.setCell ⟨g,0,tM⟩ u0).setCell ⟨g,1,tM⟩ u1).setCell ⟨g,2,tM⟩ u2).setCell ⟨g,3,tM⟩ u3).setCell ⟨g,4,tM⟩ u4).heap[g]?=tG (uc #[u0,u1,u2,u3,u4] t (0,0)):=by
 have f:=bk W g 0 _ _ u0 h;have j:=bk _ g 1 _ _ u1 f;have o:=bk _ g 2 _ _ u2 j;have q:=bk _ g 3 _ _ u3 o;have u:=bk _ g 4 _ _ u4 q;exact u
theorem gy {N B:bh}{w W:World}(h:aE N w W)(d:N<=B)(u0 u1 u2 u3 u4:cA):aE N w (((((W.setCell ⟨B,0,tM⟩ u0).setCell ⟨B,1,tM⟩ u1).setCell ⟨B,2,tM⟩ u2).setCell ⟨B,3,tM⟩ u3).setCell ⟨B,4,tM⟩ u4):=
 ((((h.setCell d _).setCell d _).setCell d _).setCell d _).setCell d _
theorem rowAt {W:World}{g:bh}{d:eA cA}{t:gt}(h:W.heap[g]?=tG (uc d t (0,0)))(k:bh){u:cA}(e:d[k]?=tG u):W.cell? ⟨g,k,tM⟩=tG u/\W.frozen? ⟨g,k,tM⟩=tR:=
 ⟨by rw[bw _ _ _ _ _ _ h];exact e,ei _ _ _ _ _ h⟩
theorem aa {W:World}{g:bh}{o:Obj}(h:W.heap[g]?=tG o):g<W.heap.size:=(br.1 h).1
theorem fU {W:World}{g:bh}{a b c d e:cA}{t:gt}(h:W.heap[g]?=tG (uc #[a,b,c,d,e] t (0,0))):
  (W.cell? ⟨g,0,tM⟩=tG a/\W.cell? ⟨g,1,tM⟩=tG b/\W.cell? ⟨g,2,tM⟩=tG c/\W.cell? ⟨g,3,tM⟩=tG d/\W.cell? ⟨g,4,tM⟩=tG e)/\
  (W.frozen? ⟨g,0,tM⟩=tR/\W.frozen? ⟨g,1,tM⟩=tR/\W.frozen? ⟨g,2,tM⟩=tR/\W.frozen? ⟨g,3,tM⟩=tR/\W.frozen? ⟨g,4,tM⟩=tR)/\g<W.heap.size:=by
 refine⟨⟨?_, ?_, ?_, ?_, ?_⟩,⟨?_, ?_, ?_, ?_, ?_⟩,(br.1 h).1⟩
 all_goals first|exact ei _ _ _ _ _ h|(rw[bw _ _ _ _ _ _ h];rfl)
theorem mP {W:World}{g:bh}{a b c d:cA}{t:gt}(h:W.heap[g]?=tG (uc #[a,b,c,d] t (0,0))):
  (W.cell? ⟨g,0,tM⟩=tG a/\W.cell? ⟨g,1,tM⟩=tG b/\W.cell? ⟨g,2,tM⟩=tG c/\W.cell? ⟨g,3,tM⟩=tG d)/\
  (W.frozen? ⟨g,0,tM⟩=tR/\W.frozen? ⟨g,1,tM⟩=tR/\W.frozen? ⟨g,2,tM⟩=tR/\W.frozen? ⟨g,3,tM⟩=tR)/\g<W.heap.size:=by
 refine⟨⟨?_, ?_, ?_, ?_⟩,⟨?_, ?_, ?_, ?_⟩,(br.1 h).1⟩
 all_goals first|exact ei _ _ _ _ _ h|(rw[bw _ _ _ _ _ _ h];rfl)
theorem dz {W:World}{g:bh}{a b:cA}{t:gt}(h:W.heap[g]?=tG (uc #[a,b] t (0,0))):
  (W.cell? ⟨g,0,tM⟩=tG a/\W.cell? ⟨g,1,tM⟩=tG b)/\(W.frozen? ⟨g,0,tM⟩=tR/\W.frozen? ⟨g,1,tM⟩=tR)/\g<W.heap.size:=by
 refine⟨⟨?_, ?_⟩,⟨?_, ?_⟩,(br.1 h).1⟩
 all_goals first|exact ei _ _ _ _ _ h|(rw[bw _ _ _ _ _ _ h];rfl)
theorem IJ {w:World}{b:bh}{d:gt}{x y:cA}(h:w.heap[b]?=tG (uc #[x,y] d (0,0))):w.cell? ⟨b,0,tM⟩=tG x/\w.cell? ⟨b,1,tM⟩=tG y:=⟨(rowAt h 0 rfl).1,(rowAt h 1 rfl).1⟩
theorem Ij {w:World}{b:bh}{A:gt}{d e f g j o q t u v x y z:cA}(h:w.heap[b]?=tG (uc #[d,e,f,g,j,o,q,t,u,v,x,y,z] A (0,0))):w.cell? ⟨b,0,tM⟩=tG d/\w.cell? ⟨b,1,tM⟩=tG e/\w.cell? ⟨b,2,tM⟩=tG f/\w.cell? ⟨b,3,tM⟩=tG g/\w.cell? ⟨b,4,tM⟩=tG j/\w.cell? ⟨b,5,tM⟩=tG o/\w.cell? ⟨b,6,tM⟩=tG q/\w.cell? ⟨b,7,tM⟩=tG t/\w.cell? ⟨b,8,tM⟩=tG u/\w.cell? ⟨b,9,tM⟩=tG v/\w.cell? ⟨b,10,tM⟩=tG x/\w.cell? ⟨b,11,tM⟩=tG y/\w.cell? ⟨b,12,tM⟩=tG z:=⟨(rowAt h 0 rfl).1,(rowAt h 1 rfl).1,(rowAt h 2 rfl).1,(rowAt h 3 rfl).1,(rowAt h 4 rfl).1,(rowAt h 5 rfl).1,(rowAt h 6 rfl).1,(rowAt h 7 rfl).1,(rowAt h 8 rfl).1,(rowAt h 9 rfl).1,(rowAt h 10 rfl).1,(rowAt h 11 rfl).1,(rowAt h 12 rfl).1⟩
theorem ae {g k:bh}{w w':World}(h:Ext (·=g) w w')(u:cA):Ext (·=g) w (w'.setCell ⟨g,k,tM⟩ u):=h.setCell (a:=⟨g,k,tM⟩) (.inl rfl) u
theorem gN {W:World}{g:bh}{q o j h f e d u0 u1 u2 u3 u4 u5 u6:cA}{t:gt}(u:W.heap[g]?=tG (uc #[q,o,j,h,f,e,d] t (0,0))):
  (((((((W.setCell ⟨g,0,tM⟩ u0).setCell ⟨g,1,tM⟩ u1).setCell ⟨g,2,tM⟩ u2).setCell ⟨g,3,tM⟩ u3).setCell ⟨g,4,tM⟩ u4).setCell ⟨g,5,tM⟩ u5).setCell ⟨g,6,tM⟩ u6).heap[g]?=tG (uc #[u0,u1,u2,u3,u4,u5,u6] t (0,0)):=by
 have h0:(W.setCell ⟨g,0,tM⟩ u0).heap[g]?=tG (uc #[u0,o,j,h,f,e,d] t (0,0)):=bk _ g 0 _ _ u0 u;have v:((W.setCell ⟨g,0,tM⟩ u0).setCell ⟨g,1,tM⟩ u1).heap[g]?=tG (uc #[u0,u1,j,h,f,e,d] t (0,0)):=bk _ g 1 _ _ u1 h0;have x:(((W.setCell ⟨g,0,tM⟩ u0).setCell ⟨g,1,tM⟩ u1).setCell ⟨g,2,tM⟩ u2).heap[g]?=tG (uc #[u0,u1,u2,h,f,e,d] t (0,0)):=bk _ g 2 _ _ u2 v;have y:((((W.setCell ⟨g,0,tM⟩ u0).setCell ⟨g,1,tM⟩ u1).setCell ⟨g,2,tM⟩ u2).setCell ⟨g,3,tM⟩ u3).heap[g]?=tG (uc #[u0,u1,u2,u3,f,e,d] t (0,0)):=bk _ g 3 _ _ u3 x;have z:(((((W.setCell ⟨g,0,tM⟩ u0).setCell ⟨g,1,tM⟩ u1).setCell ⟨g,2,tM⟩ u2).setCell ⟨g,3,tM⟩ u3).setCell ⟨g,4,tM⟩ u4).heap[g]?=tG (uc #[u0,u1,u2,u3,u4,e,d] t (0,0)):=bk _ g 4 _ _ u4 y;have A:((((((W.setCell ⟨g,0,tM⟩ u0).setCell ⟨g,1,tM⟩ u1).setCell ⟨g,2,tM⟩ u2).setCell ⟨g,3,tM⟩ u3).setCell ⟨g,4,tM⟩ u4).setCell ⟨g,5,tM⟩ u5).heap[g]?=tG (uc #[u0,u1,u2,u3,u4,u5,d] t (0,0)):=bk _ g 5 _ _ u5 z;have E:(((((((W.setCell ⟨g,0,tM⟩ u0).setCell ⟨g,1,tM⟩ u1).setCell ⟨g,2,tM⟩ u2).setCell ⟨g,3,tM⟩ u3).setCell ⟨g,4,tM⟩ u4).setCell ⟨g,5,tM⟩ u5).setCell ⟨g,6,tM⟩ u6).heap[g]?=tG (uc #[u0,u1,u2,u3,u4,u5,u6] t (0,0)):=bk _ g 6 _ _ u6 A;exact E
theorem cK (W:World)(g:bh)(u0 u1 u2 u3 u4 u5 u6:cA):Ext (·=g) W (((((((W.setCell ⟨g,0,tM⟩ u0).setCell ⟨g,1,tM⟩ u1).setCell ⟨g,2,tM⟩ u2).setCell ⟨g,3,tM⟩ u3).setCell ⟨g,4,tM⟩ u4).setCell ⟨g,5,tM⟩ u5).setCell ⟨g,6,tM⟩ u6):=by
 refine ae ?_ _;refine ae ?_ _;refine ae ?_ _;refine ae ?_ _;refine ae ?_ _;refine ae ?_ _;refine ae ?_ _;exact Ext.refl _ _
theorem eZ {W:World}{g:bh}{e f h j o q u:cA}{t:gt}(d:W.heap[g]?=tG (uc #[e,f,h,j,o,q,u] t (0,0))):
  (W.cell? ⟨g,0,tM⟩=tG e/\W.cell? ⟨g,1,tM⟩=tG f/\W.cell? ⟨g,2,tM⟩=tG h/\W.cell? ⟨g,3,tM⟩=tG j/\W.cell? ⟨g,4,tM⟩=tG o/\W.cell? ⟨g,5,tM⟩=tG q/\W.cell? ⟨g,6,tM⟩=tG u)/\(W.frozen? ⟨g,0,tM⟩=tR/\W.frozen? ⟨g,1,tM⟩=tR/\W.frozen? ⟨g,2,tM⟩=tR/\W.frozen? ⟨g,3,tM⟩=tR/\W.frozen? ⟨g,4,tM⟩=tR/\W.frozen? ⟨g,5,tM⟩=tR/\W.frozen? ⟨g,6,tM⟩=tR)/\g<W.heap.size:=
 ⟨⟨(rowAt d 0 rfl).1,(rowAt d 1 rfl).1,(rowAt d 2 rfl).1,(rowAt d 3 rfl).1,(rowAt d 4 rfl).1,(rowAt d 5 rfl).1,(rowAt d 6 rfl).1⟩,⟨(rowAt d 0 rfl).2,(rowAt d 1 rfl).2,(rowAt d 2 rfl).2,(rowAt d 3 rfl).2,(rowAt d 4 rfl).2,(rowAt d 5 rfl).2,(rowAt d 6 rfl).2⟩,aa d⟩
theorem lw {W:World}{g:bh}{v u q o j h f e d u0 u1 u2 u3 u4 u5 u6 u7 u8:cA}{t:gt}(x:W.heap[g]?=tG (uc #[v,u,q,o,j,h,f,e,d] t (0,0))):
  (((((((((W.setCell ⟨g,0,tM⟩ u0).setCell ⟨g,1,tM⟩ u1).setCell ⟨g,2,tM⟩ u2).setCell ⟨g,3,tM⟩ u3).setCell ⟨g,4,tM⟩ u4).setCell ⟨g,5,tM⟩ u5).setCell ⟨g,6,tM⟩ u6).setCell ⟨g,7,tM⟩ u7).setCell ⟨g,8,tM⟩ u8).heap[g]?=tG (uc #[u0,u1,u2,u3,u4,u5,u6,u7,u8] t (0,0)):=by
 have h0:(W.setCell ⟨g,0,tM⟩ u0).heap[g]?=tG (uc #[u0,u,q,o,j,h,f,e,d] t (0,0)):=bk _ g 0 _ _ u0 x;have y:((W.setCell ⟨g,0,tM⟩ u0).setCell ⟨g,1,tM⟩ u1).heap[g]?=tG (uc #[u0,u1,q,o,j,h,f,e,d] t (0,0)):=bk _ g 1 _ _ u1 h0;have z:(((W.setCell ⟨g,0,tM⟩ u0).setCell ⟨g,1,tM⟩ u1).setCell ⟨g,2,tM⟩ u2).heap[g]?=tG (uc #[u0,u1,u2,o,j,h,f,e,d] t (0,0)):=bk _ g 2 _ _ u2 y;have A:((((W.setCell ⟨g,0,tM⟩ u0).setCell ⟨g,1,tM⟩ u1).setCell ⟨g,2,tM⟩ u2).setCell ⟨g,3,tM⟩ u3).heap[g]?=tG (uc #[u0,u1,u2,u3,j,h,f,e,d] t (0,0)):=bk _ g 3 _ _ u3 z;have E:(((((W.setCell ⟨g,0,tM⟩ u0).setCell ⟨g,1,tM⟩ u1).setCell ⟨g,2,tM⟩ u2).setCell ⟨g,3,tM⟩ u3).setCell ⟨g,4,tM⟩ u4).heap[g]?=tG (uc #[u0,u1,u2,u3,u4,h,f,e,d] t (0,0)):=bk _ g 4 _ _ u4 A;have G:((((((W.setCell ⟨g,0,tM⟩ u0).setCell ⟨g,1,tM⟩ u1).setCell ⟨g,2,tM⟩ u2).setCell ⟨g,3,tM⟩ u3).setCell ⟨g,4,tM⟩ u4).setCell ⟨g,5,tM⟩ u5).heap[g]?=tG (uc #[u0,u1,u2,u3,u4,u5,f,e,d] t (0,0)):=bk _ g 5 _ _ u5 E;have J:(((((((W.setCell ⟨g,0,tM⟩ u0).setCell ⟨g,1,tM⟩ u1).setCell ⟨g,2,tM⟩ u2).setCell ⟨g,3,tM⟩ u3).setCell ⟨g,4,tM⟩ u4).setCell ⟨g,5,tM⟩ u5).setCell ⟨g,6,tM⟩ u6).heap[g]?=tG (uc #[u0,u1,u2,u3,u4,u5,u6,e,d] t (0,0)):=bk _ g 6 _ _ u6 G;have K:((((((((W.setCell ⟨g,0,tM⟩ u0).setCell ⟨g,1,tM⟩ u1).setCell ⟨g,2,tM⟩ u2).setCell ⟨g,3,tM⟩ u3).setCell ⟨g,4,tM⟩ u4).setCell ⟨g,5,tM⟩ u5).setCell ⟨g,6,tM⟩ u6).setCell ⟨g,7,tM⟩ u7).heap[g]?=tG (uc #[u0,u1,u2,u3,u4,u5,u6,u7,d] t (0,0)):=bk _ g 7 _ _ u7 J;have R:(((((((((W.setCell ⟨g,0,tM⟩ u0).setCell ⟨g,1,tM⟩ u1).setCell ⟨g,2,tM⟩ u2).setCell ⟨g,3,tM⟩ u3).setCell ⟨g,4,tM⟩ u4).setCell ⟨g,5,tM⟩ u5).setCell ⟨g,6,tM⟩ u6).setCell ⟨g,7,tM⟩ u7).setCell ⟨g,8,tM⟩ u8).heap[g]?=tG (uc #[u0,u1,u2,u3,u4,u5,u6,u7,u8] t (0,0)):=bk _ g 8 _ _ u8 K;exact R
theorem lD (W:World)(g:bh)(u0 u1 u2 u3 u4 u5 u6 u7 u8:cA):Ext (·=g) W (((((((((W.setCell ⟨g,0,tM⟩ u0).setCell ⟨g,1,tM⟩ u1).setCell ⟨g,2,tM⟩ u2).setCell ⟨g,3,tM⟩ u3).setCell ⟨g,4,tM⟩ u4).setCell ⟨g,5,tM⟩ u5).setCell ⟨g,6,tM⟩ u6).setCell ⟨g,7,tM⟩ u7).setCell ⟨g,8,tM⟩ u8):=by
 refine ae ?_ _;refine ae ?_ _;refine ae ?_ _;refine ae ?_ _;refine ae ?_ _;refine ae ?_ _;refine ae ?_ _;refine ae ?_ _;refine ae ?_ _;exact Ext.refl _ _
theorem fV {W:World}{g:bh}{e f h j o q u v x:cA}{t:gt}(d:W.heap[g]?=tG (uc #[e,f,h,j,o,q,u,v,x] t (0,0))):
  (W.cell? ⟨g,0,tM⟩=tG e/\W.cell? ⟨g,1,tM⟩=tG f/\W.cell? ⟨g,2,tM⟩=tG h/\W.cell? ⟨g,3,tM⟩=tG j/\W.cell? ⟨g,4,tM⟩=tG o/\W.cell? ⟨g,5,tM⟩=tG q/\W.cell? ⟨g,6,tM⟩=tG u/\W.cell? ⟨g,7,tM⟩=tG v/\W.cell? ⟨g,8,tM⟩=tG x)/\(W.frozen? ⟨g,0,tM⟩=tR/\W.frozen? ⟨g,1,tM⟩=tR/\W.frozen? ⟨g,2,tM⟩=tR/\W.frozen? ⟨g,3,tM⟩=tR/\W.frozen? ⟨g,4,tM⟩=tR/\W.frozen? ⟨g,5,tM⟩=tR/\W.frozen? ⟨g,6,tM⟩=tR/\W.frozen? ⟨g,7,tM⟩=tR/\W.frozen? ⟨g,8,tM⟩=tR)/\g<W.heap.size:=
 ⟨⟨(rowAt d 0 rfl).1,(rowAt d 1 rfl).1,(rowAt d 2 rfl).1,(rowAt d 3 rfl).1,(rowAt d 4 rfl).1,(rowAt d 5 rfl).1,(rowAt d 6 rfl).1,(rowAt d 7 rfl).1,(rowAt d 8 rfl).1⟩,⟨(rowAt d 0 rfl).2,(rowAt d 1 rfl).2,(rowAt d 2 rfl).2,(rowAt d 3 rfl).2,(rowAt d 4 rfl).2,(rowAt d 5 rfl).2,(rowAt d 6 rfl).2,(rowAt d 7 rfl).2,(rowAt d 8 rfl).2⟩,aa d⟩
end Go.Proofs.YtjomgckjhcfbgaaGreat
