/- Walks. -/
import Derived.Test.YtjomgckjhcfbgaaGreatProg
import Derived.WalkKit
import Derived.WalkLawsBesides
import Derived.WalkSpells
import Derived.Lib.Hide
import Derived.Laws.CopyOwn
import Derived.Deep.QuietTactic
import Derived.BigQuiet
import Derived.Maps.AppendAt
import Derived.RangeFuncNested
import Derived.RangeFuncBound
import Derived.RangeFuncCalls
import Derived.RangeFuncLeaves
import Derived.Shelf.Abstract
import Derived.OwnWalkIn
import Derived.TacticsInMore
import Derived.LoopNIn
import Derived.LoopIn
import Derived.Deep.AppendLies
import Derived.Deep.LoopGhost
import Derived.Deep.RegionHeld3
import Derived.Deep.DeepCutAuto
import Derived.RegionTactic
import Derived.Laws.OwnMore
import Derived.Laws.IdiomCopy
import Derived.WalkMore
import Derived.Deep.Slices
import Derived.Carry
import Derived.OrdersHeld
import Derived.Deep.RegionHeldLaw
import Derived.Deep.Quiet
import Derived.Laws.ResultCell
import Derived.Deep.WholeRow
set_option maxRecDepth 100000
set_option maxHeartbeats 64000000
set_option linter.all false
namespace Go.Proofs.YtjomgckjhcfbgaaGreat
open Go.RowKit
open Go.Proofs.Tryz renaming prog→am,underlying42→cA,underlying3→cX,underlying32→dT,underlying35→gv,underlying9→gS,underlying40→ms,underlying4→mu
open _root_.List renaming getElem?_eq_getElem→ap,getElem?_eq_some_iff→bo,mem_of_getElem?→ci,take_length→cL,mem_singleton→cP,eq_nil_of_length_eq_zero→cV,mem_append→dg,length_take→ee,length_cons→eh,length_map→eq,mem_map→fL,mem_cons→fW,range→gb,getElem?_append_right→gA,any_eq_true→js,replicate→ju,length_pos_iff→kq,length_nil→ks,take_add_one→kA,map_cons→li,getElem?_take→lO,getElem?_append_left→mz,map_nil→oT,mem_range→pf,exists_cons_of_length_eq_add_one→pl,getElem?_drop→pZ,mem_iff_getElem?→sr,nodup_cons→sx
open Go.RowKit.Below renaming refl→aq,heap_alloc→cE,heap_setCell→cT
open _root_ renaming Int→aw,Nat→bj,ByteArray→bl,List→bp,if_neg→bw,Option→cC,if_pos→cH,Array→dl,absurd→fz,False→lj,if_true→lk,Bool→ml,decide_eq_true_eq→oY,beq_iff_eq→sR
open Go.RowKit renaming Below→aE,Hid→cg,intOf→dp
open Go renaming heap_setCell_same→bk,cell_of_row→bt,Value→cw,frozen_of_row→de,maxLen→du,Addr→fg,Calls→fj,TypeId→fX,heap_alloc2_new→im,run_underlying→i5,heap_alloc2_old→i8,Oper→kj,Program→km,MemPlace→m5,run_loadVar_row→nr,yielded→oc,wpList→pi,wpQuiet→qS,results→rr,wpIn_wide→rv,wpAny→rL,wpList_plain→sL
open _root_.Array renaming getElem?_eq_some_iff→br,replicate→fk,getElem?_setIfInBounds_ne→lr,any_eq_true'→pD,getD_eq_getD_getElem?→sy
open _root_.Nat renaming le_refl→cd,lt_of_lt_of_le→cD,zero_add→cI,zero_le→cM,le_trans→eN,add_zero→i7,add_comm→qr
open _root_.Option.some renaming inj→cy
open Go.Addr renaming add_lit→cU
open Go.DataW renaming trod_int→dy,trod_struct→eI,trod→jp,trod_string→kp
open _root_.Bool renaming and_eq_true→ej,or_eq_true→ip,true→ti,false→tj
open Go.Region renaming ready→em,noSelect→fR,wanted→gd,binds→gw,Mode→ii,free→mL,lexB→rx
open _root_.Int renaming toNat_natCast→ep
open Go.Value renaming int→eS,string→tm,slice→tn,pointer→tr,bool→tt,agg→tv,int→Z
open Go.Sem renaming run_bind→ft,run_pure→rn
open Go.Value.slice renaming injEq→fy
open Go.Fence renaming wide→gx
open _root_.ByteArray renaming empty→kh
open Go.Result renaming andThen_ok→kB,andThen→lz
open Go.Oper renaming wp→mp
open _root_.Option renaming any_eq_true→po,some→tf,none→th
open Go.Builtin renaming zeroCells→pB
open Go.Obj renaming cells→tA
open Go.Ending renaming returned→tB
open Go.IntKind renaming i64→U
open Tryz
theorem iQ:(am.info? 3).map (λi=>(i.zero,i.size,i.bytes))=tf (tf (Z U 0),1,8):=by kernel_rfl
structure Ext (M:bj->Prop)(w w':World):Prop where
 os:w'.os=w.os
 tape:w'.tape=w.tape
 output:w'.output=w.output
 size:w.heap.size<=w'.heap.size
 block:∀k,k<w.heap.size->¬M k->w'.heap[k]?=w.heap[k]?
def aU (w:World)(base:bj)(v:cw)(xs:bp aw):Prop:=w.ownsRow base 3 1 v xs.length (xs.map (eS .i64))
theorem aU.lit1 {w:World}{base B:bj}{x:aw}(d:B=w.heap.size)(h:base<=B):aU (w.alloc (tA #[Z U x] 3)) base (tn (tf ⟨B,0,th⟩) 1 1) [x]:=by
 subst d;exact World.ownsRow_lit w #[Z U x] 1 h (by decide) rfl
theorem aU.nil (w:World)(base:bj):aU w base (tn th 0 0) []:=World.ownsRow_nil _ _ _ _
theorem aU.mono {w:World}{base d:bj}{v:cw}{xs:bp aw}(h:aU w base v xs)(hb:d<=base):aU w d v xs:=by
 refine⟨h.1, ?_⟩;rcases h.2 with h|⟨g,cap,e,f,o,j⟩
 ·exact .inl h
 ·exact .inr ⟨g,cap,e,f,by omega,j⟩
theorem aU.shape {w:World}{base n cap:bj}{ao:cC fg}{xs:bp aw}(h:aU w base (tn ao n cap) xs)(v:0<xs.length):
  ∃g,ao=tf ⟨g,0,th⟩/\base<=g/\g<w.heap.size/\∀(k:bj)(z:aw),xs[k]?=tf z->w.cell? ⟨g,k,th⟩=tf (Z U z):=by
 rcases h.2 with⟨d,f⟩|⟨g,x,j,d,f,o,y,A,E,t⟩
 ·omega
 ·have u:ao=tf ⟨g,0,th⟩:=by simp only[fy] at d;exact d.1
  refine⟨g,u,f,(br.1 o).1,λk z q=> ?_⟩;rw[bt w g k j _ _ o];have G:k<xs.length:=(bo.1 q).1;have e:(j.toList.take (xs.length*1))[k]?=tf (Z U z):=by rw[t];simp[q]
  rw[lO,cH (by omega)] at e;simpa using e
theorem aU.app {w:World}{base:bj}{v:cw}{xs:bp aw}{z:aw}(h:w.ownsRow base 3 1 v (xs.length+1) (xs.map (eS .i64)++[Z U z])):aU w base v (xs++[z]):=by
 unfold aU;simpa using h
theorem aU.isSlice {w:World}{base:bj}{v:cw}{xs:bp aw}(h:aU w base v xs):∃ao cap,v= tn ao xs.length cap:=by
 rcases h.2 with⟨d,e⟩|⟨g,cap,f,d,_⟩
 ·exact⟨th,0,by rw[e];exact d⟩
 ·exact⟨_,_,d⟩
theorem aS {α:Type}{xs:bp α}{k:bj}{z:α}(h:xs[k]?=tf z):xs.take (k+1)=xs.take k++[z]:=by
 rw[kA,h];rfl
structure Ins where
 op:aw
 d:aw
 a:aw
 b:aw
 f:aw
 n:aw
 sign:bl
 argsV:cw
 modeV:cw
 tI:aw
 els:aw
 ln:aw
 cl:aw
 args:bp aw
def Ins.cells (i:Ins):dl cw:=#[Z U i.op,Z U i.d,Z U i.a,Z U i.b,Z U i.f,Z U i.n,tm i.sign,i.argsV,i.modeV,Z U i.tI,Z U i.els,Z U i.ln,Z U i.cl]
def iR (i:Ins)(at_:aw):bp aw:=
 if i.op=16 then[i.tI] else if i.op=17 then(if i.tI=i.els then[i.tI] else[i.tI,i.els]) else if i.op=18 then[] else[at_+1]
def iT (w:World)(xs:bp aw)(e:Ending)(w':World):Prop:=
 ∃ao cap,e= tB (tn ao xs.length cap)/\aU w' w.heap.size (tn ao xs.length cap) xs/\aE w.heap.size w w'
theorem ownsRow_below {w w':World}{base:bj}{e:fX}{size:bj}{v:cw}{n:bj}{xs:bp cw}(h:w.ownsRow base e size v n xs)(hb:aE w.heap.size w w'):w'.ownsRow base e size v n xs:=by
 refine⟨h.1, ?_⟩;rcases h.2 with f|⟨g,cap,j,o,q,d,t⟩
 ·exact .inl f
 ·exact .inr ⟨g,cap,j,o,q,(hb.block g (br.1 d).1).trans d,t⟩
theorem lF (w:World)(d:bp cw)(t:fX):∀j u,d[j]?=tf u->(w.alloc (tA d.toArray t)).cell? ((⟨w.heap.size,0,th⟩:fg).add j)=tf u:=by
 intro j u h;rw[cU,cI,World.cell?_alloc_new];simpa using h
theorem Cw {P:km}(w:World)(t q e:fX)(i:TypeInfo)(z:cw)(v:P.underlying t=tf (.slice e))(hi:P.info? e=tf i)(x:i.zero=tf z)(y:z.cells=#[z])(A:z.oneCell'=ti)
  (g d n cap:bj)(f:dl cw)(h:fX)(E:w.heap[g]?=tf (tA f h (0,0)))(G:d+n<=f.size)(K:0<n):
  (Builtin.clear_ #[t] q #[tn (tf ⟨g,d,th⟩) n cap]).run P w= .ok (.tuple #[]) (w.setRow g (f.toList.take d++ju n z++f.toList.drop (d+n)).toArray):=by
 have J:(pB #[z] n).toList=ju n z:=by
  apply List.ext_getElem?;intro j
  by_cases o:j<n
  ·simp[pB,o,Nat.mod_one]
  ·simp[pB,o]
 have hst:=run_storeCells_at P g d h (ju n z) 0 f w E (by simpa using G) (by intro u hu;rw[List.eq_of_mem_replicate hu];exact A);simp only[i7,List.length_replicate] at hst;obtain⟨m,rfl⟩:∃m,n=m+1:=⟨n-1,by omega⟩
 simp[Builtin.clear_,i5 v,zeroValue,typeInfo,hi,x,y,J,hst]
theorem nA {P:km}(w:World){ops:dl kj}{rest:bp kj}{o:kj}{a:Act}{Q:Exit->Act->World->Prop}(q:o.guard=th)(x:Operand)(t e:fX)
  (u:o.op= .call {callee:= .builtin .clear,args:=#[x],argTypes:=#[t]})(i:TypeInfo)(z:cw)(v:P.underlying t=tf (.slice e))(hi:P.info? e=tf i)(y:i.zero=tf z)(A:z.cells=#[z])(E:z.oneCell'=ti)
  (g d n cap:bj)(G:a.eval x= tn (tf ⟨g,d,th⟩) n cap)(f:dl cw)(j:fX)(J:w.heap[g]?=tf (tA f j (0,0)))(K:d+n<=f.size)(R:0<n)
  (h:pi P ops Q rest (a.put o.dst (.tuple #[])) (w.setRow g (f.toList.take d++ju n z++f.toList.drop (d+n)).toArray)):pi P ops Q (o::rest) a w:=
 sL q λ_ W=>by
  unfold mp execOp;simp only[u,resolve,invoke,builtin,ft,rn,kB,List.map_toArray,li,oT,G,Cw w t o.type e i z v hi y A E g d n cap f j J K R];exact W _ _ h
theorem iU {P:km}{w:World}{ops:dl kj}{rest:bp kj}{o:kj}{a:Act}{Q:Exit->Act->World->Prop}
  (j:o.guard=th)(l c:Operand)(t:fX)(q:o.op=Op.makeSlice t l c)
  (e:fX)(i:TypeInfo)(z:cw)(u:P.underlying t=tf (.slice e))(v:P.info? e=tf i)(x:i.zero=tf z)(y:i.size=1)(A:z.cells=#[z])
  (f g:IntKind)(L C:aw)(n:bj)(E:a.eval l= .int f L)(G:a.eval c= .int g C)(J:L=(n:aw))(hC:C=(n:aw))(b2:i.bytes*n<=281474976710656)(R:n<=du)
  (W:pi P ops Q rest (a.put o.dst (tn (tf ⟨w.heap.size,0,th⟩) n n)) (w.alloc (tA (ju n z).toArray e))):
  pi P ops Q (o::rest) a w:=by
 refine sL j λK tD=> ?_;subst J;subst hC;have tE:(n:aw)<=9223372036854775807:=by
  have h:=R;simp[du] at h;omega
 have tG:(i.bytes:aw)*(n:aw)<=281474976710656:=by
  have h:((i.bytes*n:bj):aw)<=281474976710656:=by omega
  rwa [Int.natCast_mul] at h
 have d:=run_make (P:=P) w t e i z u v x f g n n (by omega) (Int.le_refl _) tG tE;simp only[ep,y,A,Nat.mul_one] at d;have hm:madeCells #[z] n=(ju n z).toArray:=by
  rw[<-toList_madeCells_one]
 rw[hm] at d;unfold mp;simp[execOp,q,E,G,d,lz];exact tD _ _ (by simpa using W)
theorem iV {P:km}(w:World)(g:fg)(f:fX)(e:dl cw)(d:TypeDesc)(q:∀j u,e.toList[j]?=tf u->w.cell? (g.add j)=tf u)
  (t:P.underlying f=tf d)(y:(match d with| .struct _| .array _ _=>ti|_=>tj)=ti)(hi:(P.info? f).map (·.size)=tf e.size):
  (loadVar f g).run P w= .ok (tv e) w:=by
 have o:(loadCells g e.toList.length).run P w= .ok e.toList.toArray w:=run_loadCells_list (P:=P) w g e.toList q;cases h:P.info? f with
 |none=>simp[h] at hi
 |some i=>
  have v:i.size=e.size:=by simpa[h] using hi
  have x:(isAgg f).run P w= .ok ti w:=by
   unfold isAgg;rw[ft,i5 t w];cases d<;>simp_all
  simp only[Array.length_toList,Array.toArray_toList] at o;simp[loadVar,ft,x,sizeOf,typeInfo,h,v,o]
theorem ay {P:km}{ops:dl kj}{rest:bp kj}{o:kj}{a:Act}{w:World}{Q:Exit->Act->World->Prop}(q:o.guard=th)(e:fX)(x:Operand)(t:o.op= .load e x)
  (g:fg)(v:a.eval x= tr (tf g))(f:dl cw)(d:TypeDesc)(y:∀j u,f.toList[j]?=tf u->w.cell? (g.add j)=tf u)
  (z:P.underlying e=tf d)(A:(match d with| .struct _| .array _ _=>ti|_=>tj)=ti)(hi:(P.info? e).map (·.size)=tf f.size)
  (h:pi P ops Q rest (a.put o.dst (tv f)) w):pi P ops Q (o::rest) a w:=
 sL q λ_ E=>by
  unfold mp execOp;simp only[t,v,Instr.loadAt,Instr.sureAddr,ft,rn,kB,iV w g e f d y z A hi];exact E _ _ h
def dL (w:World)(B:bj)(ao:cC fg)(d:bp Ins):Prop:=
 d≠[]->∃b e,ao=tf ⟨b,e,th⟩/\b<B/\∀i x,d[i]?=tf x->∀k u,x.cells.toList[k]?=tf u->w.cell? ⟨b,e+i*13+k,th⟩=tf u
theorem dL.below {w w':World}{B n:bj}{ao:cC fg}{d:bp Ins}(h:dL w B ao d)(hb:aE n w w')(f:B<=n):dL w' B ao d:=by
 intro g;obtain⟨b,j,o,e,q⟩:=h g;exact⟨b,j,o,e,λi x t k u v=>by rw[hb.cell (p:=⟨b,_,th⟩) (cD e f)];exact q i x t k u v⟩
theorem dL.mono {w:World}{B d:bj}{ao:cC fg}{e:bp Ins}(h:dL w B ao e)(q:B<=d):dL w d ao e:=by
 intro f;obtain⟨b,g,j,t,o⟩:=h f;exact⟨b,g,j,by omega,o⟩
structure dP where
 nm:bl
 par:aw
 varsA:cC fg
 nvars:bj
 varsC:bj
 rp:ml
 rto:bl
 rcl:aw
 fromA:cC fg
 nfrom:bj
 fromC:bj
 insA:cC fg
 insC:bj
 ins:bp Ins
def dP.cells (c:dP):dl cw:=#[tm c.nm,Z U c.par,tn c.varsA c.nvars c.varsC,tt c.rp,tm c.rto,Z U c.rcl,tn c.fromA c.nfrom c.fromC,tn c.insA c.ins.length c.insC]
def eP (n:bj)(x:aw):ml:=decide (0<=x/\x<n)
def dm (d:bp Ins)(at_:bj):bp bj:=
 match d[at_]? with
 |none=>[]
 |some i=>((iR i at_).filter (eP d.length)).map Int.toNat
theorem qY (n:bj)(l:bp aw):((l.filter (eP n)).map Int.toNat).map (λx:bj=>(x:aw))=l.filter (eP n):=by
 rw[List.map_map]
 conv=>rhs;rw[<-List.map_id (l.filter (eP n))]
 refine List.map_congr_left λx d=> ?_;have:=(List.mem_filter.1 d).2;simp[eP] at this;simp;omega
theorem zH {p:Prop}(h:p):cg p:=h
theorem zE {α:Sort _}(a:α):∃b,a=b:=⟨a,rfl⟩
theorem zR {W:World}{b:bj}{d:dl cw}{e:fX}{f:bj×bj}(g:W.heap[b]?=tf (tA d e f))(k:bj)(v:cw)(h:d[k]?=tf v:=by rfl):W.cell? ⟨b,k,th⟩=tf v:=by
 rw[bt _ _ _ _ _ _ g];exact h
theorem ik {N:bj}{w W:World}{o:Obj}(h:w.alloc o=W)(d:w.heap.size=N):aE N w W:=by
 rw[<-h,<-d];exact(aq _ _).alloc (cd _) _
theorem vg {N:bj}{w W:World}{o q:Obj}(h:(w.alloc o).alloc q=W)(d:w.heap.size=N):aE N w W:=by
 rw[<-h,<-d];exact((aq _ _).alloc (cd _) _).alloc (by simp) _
theorem gy {w W:World}{o:Obj}(h:w.alloc o=W):aE w.heap.size w W:=ik h rfl
theorem EX {w W:World}{o q:Obj}(h:(w.alloc o).alloc q=W):aE w.heap.size w W:=vg h rfl
theorem zD {w w2 W:World}{o:Obj}(h:w2.alloc o=W)(hb:cg (aE w.heap.size w w2)):aE w.heap.size w W:=by
 rw[<-h];exact hb.out.alloc hb.out.size _
theorem vZ {w W:World}{N:bj}{o q:Obj}(h:(w.alloc o).alloc q=W)(d:w.heap.size=N):W.heap[N]?=tf o:=by
 rw[<-h,<-d];exact i8 _ _ _
theorem yo {w W:World}{N:bj}{o q:Obj}(h:(w.alloc o).alloc q=W)(d:w.heap.size=N):W.heap[N+1]?=tf q:=by
 rw[<-h,<-d];exact im _ _ _
abbrev zP (f:FuncId)(d:dl cw)(w:World)(v:cw):Prop:=fj am f d w λe w'=>e= tB v/\aE w.heap.size w w'
abbrev zS (f:FuncId)(d:dl cw)(w:World)(v:cw):Prop:=fj am f d w λe w'=>e= tB v/\w=w'
theorem zU {α:Type _}{l:bp α}{n:bj}(h:l.length=n+1):∃a t,l=a::t/\t.length=n:=by
 obtain⟨a,t,e⟩:=pl h;exact⟨a,t,e,by subst e;simpa using h⟩
section ext
variable {M M':bj->Prop}{w w' w'':World}
theorem Ext.refl (M:bj->Prop)(w:World):Ext M w w:=⟨rfl,rfl,rfl,cd _,λ_ _ _=>rfl⟩
theorem Ext.mono (h:Ext M w w')(d:∀k,M k->M' k):Ext M' w w':=⟨h.os,h.tape,h.output,h.size,λk f g=>h.block k f (λe=>g (d k e))⟩
theorem Ext.trans (h:Ext M w w')(k:Ext M' w' w'')(g:∀j,M' j->M j\/w.heap.size<=j):Ext M w w'':=
 ⟨k.os.trans h.os,k.tape.trans h.tape,k.output.trans h.output,eN h.size k.size,λj d f=>(k.block j (cD d h.size) (λe=>by rcases g j e with e|e;exact f e;omega)).trans (h.block j d f)⟩
theorem Ext.drewN (h:Ext M w w')(n:bj):Ext M w (w'.drewN n):=⟨h.os,h.tape,h.output,h.size,h.block⟩
theorem Ext.drew (h:Ext M w w'):Ext M w w'.drew:=⟨h.os,h.tape,h.output,h.size,h.block⟩
theorem Ext.alloc (h:Ext M w w')(o:Obj):Ext M w (w'.alloc o):=⟨h.os,h.tape,h.output,by rw[World.size_alloc];exact Nat.le_succ_of_le h.size,λk d e=>(cE w' o k (cD d h.size)).trans (h.block k d e)⟩
theorem Ext.setCell (h:Ext M w w'){a:fg}(d:M a.block\/w.heap.size<=a.block)(v:cw):Ext M w (w'.setCell a v):=
 ⟨h.os,h.tape,h.output,by rw[World.size_setCell];exact h.size,λk g f=>(cT w' a v k (λe=>by subst e;rcases d with d|d;exact f d;omega)).trans (h.block k g f)⟩
theorem Ext.set1 (w:World)(b o:bj)(v:cw):Ext (·=b) w (w.setCell ⟨b,o,th⟩ v):=(Ext.refl (·=b) w).setCell (a:=⟨b,o,th⟩) (.inl rfl) v
theorem Ext.putObj (w:World)(l:bj)(o:Obj):Ext (·=l) w (w.putObj l o):=⟨rfl,rfl,rfl,by simp,λ_ _ d=>World.putObj_heap_other d⟩
theorem Ext.of_below {B:bj}(h:aE B w w'):Ext (B<=·) w w':=⟨h.os,h.tape,h.output,h.size,λk _ d=>h.block k (by omega)⟩
theorem Ext.of_below_size (h:aE w.heap.size w w'):Ext M w w':=⟨h.os,h.tape,h.output,h.size,λk d _=>h.block k d⟩
theorem Ext.below {B:bj}(h:Ext M w w')(f:B<=w.heap.size)(d:∀k,M k->B<=k):aE B w w':=⟨h.os,h.tape,h.output,h.size,λk g=>h.block k (by omega) (λe=>by have:=d k e;omega)⟩
theorem Ext.of_grown {d:cC bj}(h:w.grownBy w' d)(f:∀k,d=tf k->M k\/w.heap.size<=k):Ext M w w':=⟨h.os,h.tape,h.output,h.size,λk g j=>h.block k g (λe=>by rcases f k e.symm with e|e;exact j e;omega)⟩
theorem Ext.cell (h:Ext M w w'){a:fg}(d:a.block<w.heap.size)(e:¬M a.block):w'.cell? a=w.cell? a:=World.cell?_of_block (w:=w) (h.block a.block d e)
theorem Ext.heap (h:Ext M w w'){k:bj}{o:Obj}(d:w.heap[k]?=tf o)(e:¬M k):w'.heap[k]?=tf o:=(h.block k (br.1 d).1 e).trans d
end ext
def mark (b:bj):Deferred:={target:= .collected b,args:=#[]}
def bodyPostC (P:km)(fn:Func)(R:Ending->World->Prop):Exit->Act->World->Prop
 | .normal,a,w| .ret,a,w=>∃d:bp bj,a.defers=d.map mark/\d.Nodup/\(∀b∈d,w.heap[b]?=tf (.deferred (tf [])))/\
   ∃v,∀w',Ext (·∈d) w w'->(rr fn a.tmps).run P w'= .ok v w'/\R (tB v) w'
 |_,_,_=>lj
theorem jY {P:km}{fn:Func}{n:bj}{tmps:dl cw}{R:Ending->World->Prop}{v:cw}:∀(d:bp bj)(w:World),d.Nodup->(∀b∈d,w.heap[b]?=tf (.deferred (tf [])))->
  (∀w',Ext (·∈d) w w'->(rr fn tmps).run P w'= .ok v w'/\R (tB v) w')->LeavesInM gx n P fn tmps R (d.map mark) .returning w
 |[],w,_,_,h=>⟨v,h w (Ext.refl _ _)⟩
 |b::d,w,f,hb,h=>by
  refine⟨by simp,.inl ⟨b,_,rfl,run_takeDeferred (hb b (by simp)), ?_⟩⟩;have q:b∉d:=(sx.1 f).1;refine jY d _ (sx.1 f).2 (λg o=> ?_) (λw' t=>h w' ?_)
  ·rw[World.putObj_heap_other (λe:g=b=>q (by rw[<-e];exact o))];exact hb g (by simp[o])
  ·exact((Ext.putObj w b _).mono (by simp)).trans t (λj u=> .inl (by simp[u]))
theorem jo {P:km}{f:FuncId}{fn:Func}{c:Code}{args:dl cw}{w:World}{R:Ending->World->Prop}(hf:P.funcs[f]?=tf fn)(hb:fn.body=tf c)
  (h:c.wp P (bodyPostC P fn R) {tmps:=args++fk (fn.ntmps-args.size) undef,defers:=[]} w):fj P f args w R:=by
 refine(callsIn_wide (n:=0)).1 (callsIn_of_wp_marks hf hb trivial (rv.2 (wp_mono h ?_)));intro e a w d;cases e with
 |normal=>obtain⟨g,j,o,q,v,t⟩:=d;show LeavesInM _ _ _ _ _ _ a.defers _ _;rw[j];exact jY g w o q t
 |ret=>obtain⟨g,j,o,q,v,t⟩:=d;show LeavesInM _ _ _ _ _ _ a.defers _ _;rw[j];exact jY g w o q t
 |panic _=>exact d.elim
 |exit _=>exact d.elim
 |goto _=>exact d.elim
 |outgrown=>exact d.elim
def DK (P:km)(fv:cw)(args:dl cw)(W:World)(R:cw->World->Prop):Prop:=
 ∀(r:cC bj)(n:bj)(o:kj)(f:Operand)(d:dl Operand)(e:dl fX)(a:Act)(K:Act->World->Prop)(Q:Exit->Act->World->Prop),
  o.op= .call {callee:= .value f,args:=d,argTypes:=e}->a.eval f=fv->d.map a.eval=args->(∀v w',R v w'->K (a.put o.dst v) w')->o.wpIn {gx with round:=r} n P a W K Q
theorem Aq {r:cC bj}{o:kj}{c:Call}(ρ:Operand->cw)(d:o.op= .call c):o.semAt r ρ=execOp ρ o:=Oper.semAt_eq r ρ o (λe h=>by rw[d] at h;cases h)
theorem qZ {P:km}{l m:bj}{args:dl cw}{W:World}{R:cw->World->Prop}(h:YieldAt gx m P l args W λe w'=>∃v,e= tB v/\R v w'):DK P (.func (.yield l) #[] #[]) args W R:=by
 intro r n o f A E a K Q d g j q;obtain⟨fn,tmps,assign,body,t,_,u⟩:=h;refine⟨λ_ _=>trivial, ?_⟩;rw[Aq _ d];unfold execOp;simp only[d,resolve,g,j];have e:(invoke (Target.fn (.yield l) #[]) (#[]++args)).run P W= .ok (.round l fn tmps assign body) W:=by simp[invoke,t]
 simp only[Deferred.ofValue,ft,rn,kB,e];refine⟨λh=>by simp[gx] at h,trivial,λc x _=> ?_⟩;obtain⟨G,w',⟨v,rfl,y⟩,z⟩:=u c x (room_wide _);exact⟨tB v,w',q v w' y,z⟩
theorem fK {P:km}{n:bj}{ops:dl kj}{rest:bp kj}{o:kj}{a:Act}{w:World}{Q:Exit->Act->World->Prop}{r:cC bj}(g:o.guard=th)(f:Operand)(d:dl Operand)(e:dl fX)
  (j:o.op= .call {callee:= .value f,args:=d,argTypes:=e}){fv:cw}{args:dl cw}{R:cw->World->Prop}(hf:a.eval f=fv)(q:d.map a.eval=args)(t:DK P fv args w R)
  (h:∀v w',R v w'->wpListIn {gx with round:=r} n P ops Q rest (a.put o.dst v) w'):wpListIn {gx with round:=r} n P ops Q (o::rest) a w:=
 wpListIn_plain g λ_ u=>t r n o f d e a _ Q j hf q λv w' x=>u _ _ (h v w' x)
theorem aD {P:km}{n:bj}{ops:dl kj}{rest:bp kj}{o:kj}{a:Act}{w w':World}{Q:Exit->Act->World->Prop}{r:cC bj}(d:o.guard=th)(e:∀c,o.op≠ .defer c)(v:cw)
  (f:(execOp a.eval o).run P w= .ok (.value v) w')(h:wpListIn {gx with round:=r} n P ops Q rest (a.put o.dst v) w'):wpListIn {gx with round:=r} n P ops Q (o::rest) a w:=
 wpListIn_plain d λ_ g=>by
  refine⟨λ_ _=>trivial, ?_⟩;rw[Oper.semAt_eq _ _ _ e,f];exact g _ _ h
def Iter (P:km)(gf:bj)(lb:dl cw){α:Type}(o:α->dl cw)(xs:bp α)(Rd:bj->Prop)(w:World):Prop:=
 ∀(l:bj)(J:bp α->(bj->Prop)->World->Prop)(g:bp α->World->Prop)(C:bj->Prop)(W:World),aE w.heap.size w W->
  (∀d C W1 f,J d C W1->Ext (λk=>W.heap.size<=k/\¬C k) W1 f->J d C f)->
  (∀d C W1,J d C W1->∀k,C k->k<W1.heap.size/\¬Rd k)->
  (∀d W1 f,g d W1->Ext (λ_=>lj) W1 f->g d f)->
  (∀d x C W1,J d C W1->(d++[x])<+:xs->DK P (.func (.yield l) #[] #[]) (o x) W1 λv f=>
   (v= tt ti/\∃h:bj->Prop,(∀k,h k->C k\/W1.heap.size<=k)/\J (d++[x]) h f/\Ext C W1 f)\/(v= tt tj/\g (d++[x]) f))->
  J [] C W->
  fj P gf (#[.func (.yield l) #[] #[]]++lb) W λe j=>∃v,e= tB v/\((∃h,J xs h j)\/(∃d,d<+:xs/\g d j))
def BU {α:Type}(I:bp α->(bj->Prop)->World->Prop)(g:Code->bp α->(bj->Prop)->World->Prop)(C:bj->Prop)(W:World)(f:bp α):Exit->Act->World->Prop
 | .normal,_,d=>∃e:bj->Prop,(∀k,e k->C k\/W.heap.size<=k)/\I f e d/\Ext C W d
 | .ret,_,d=>∃e:bj->Prop,(∀k,e k->C k\/W.heap.size<=k)/\g .ret f e d/\Ext C W d
 | .exit id,_,d=>∃e:bj->Prop,(∀k,e k->C k\/W.heap.size<=k)/\g (.exit id) f e d/\Ext C W d
 | .goto t,_,d=>∃e:bj->Prop,(∀k,e k->C k\/W.heap.size<=k)/\g (.goto t) f e d/\Ext C W d
 |_,_,_=>lj
theorem gD {P:km}{α:Type}{g:Operand}{ps:dl Tmp}{assign body:Code}{Q:Exit->Act->World->Prop}{a:Act}{w:World}{gf:bj}{lb:dl cw}{fn:Func}{fb:Code}
  (hg:a.eval g= .func (.func gf) #[] lb)(hf:P.funcs[gf]?=tf fn)(hname:(fn.name=="runtime.NumGoroutine")=tj)(hb:fn.body=tf fb)
  {ub:α->dl cw}{xs:bp α}{Rd:bj->Prop}{w0:World}(hit:Iter P gf lb ub xs Rd w0)(ux:aE w0.heap.size w0 w)(hRd:∀k,Rd k->k<w.heap.size)(vm:∀x,(ub x).size=ps.size)
  (I:bp α->(bj->Prop)->World->Prop)(Ix:Code->bp α->(bj->Prop)->World->Prop)
  (hI:∀d C W W',I d C W->Ext (λk=>w.heap.size<=k/\¬C k) W W'->I d C W')
  (hIC:∀d C W,I d C W->∀k,C k->k<W.heap.size/\¬Rd k)
  (hIx:∀c d C W W',Ix c d C W->Ext (λk=>w.heap.size<=k/\¬C k) W W'->Ix c d C W')
  (C0:bj->Prop)(h0:I [] C0 w)
  (hround:∀(l:bj)(d:bp α)(x:α)(C:bj->Prop)(W:World),w.heap.size<=l->I d C W->(d++[x])<+:xs->
   assign.wpIn (gx.inRound l) 0 P (Exit.then (λa₁ W₁=>∃K:bj->Prop,(∀k,K k->C k\/W.heap.size<=k)/\I d K W₁/\Ext C W W₁/\
    ∀E,I d K E->Ext (·=l) W₁ E->body.wpIn (gx.inRound l) 0 P (BU I Ix K E (d++[x])) a₁ E) (λ_ _ _=>lj))
    {tmps:=(ps.zip (ub x)).foldl (λt (p,v)=>t.setIfInBounds p v) a.tmps,defers:=[]} W)
  (hdone:∀(D:bj)(C:bj->Prop)(W:World),w.heap.size<=D->¬C D->I xs C W->W.heap[D]?=tf (.deferred (tf []))->Q .normal {a with defers:=mark D::a.defers} W)
  (hstop:∀(D:bj)(c:Code)(d:bp α)(C:bj->Prop)(W:World),w.heap.size<=D->¬C D->d<+:xs->Ix c d C W->W.heap[D]?=tf (.deferred (tf []))->c.wp P Q {a with defers:=mark D::a.defers} W):
  (Code.rangeFunc g ps assign body).wp P Q a w:=by
 have eg:∀args w,(callFunc gf args).run P w= .ok (.enter gf args) w:=enters_of hf hname hb;refine(rv (n:=0)).1 (wpIn_rangeFunc ?_);intro vc _;obtain⟨y,tD⟩:∃y:LoopState->cC Code->Loop,y=λst pe=>{state:=st,pending:=pe,fn:=vc,tmps:=a.tmps,params:=ps,assign,body,defers:=w.heap.size}:=⟨_,rfl⟩
 obtain⟨W1,ua⟩:=zE ((w.alloc (.deferred (tf []))).alloc (.loop (y .ready th)));obtain⟨D,hD⟩:=zE w.heap.size;obtain⟨l,hl⟩:=zE (w.heap.size+1);have xf:W1.heap.size=w.heap.size+2:=by rw[<-ua];simp
 have vp:W1.heap[l]?=tf (.loop (y .ready th)):=by
  rw[<-ua,<-hl];have:=World.alloc_heap_new (w.alloc (.deferred (tf []))) (.loop (y .ready th));rwa [World.size_alloc] at this
 have vq:W1.heap[D]?=tf (.deferred (tf [])):=by
  rw[<-ua,<-hD];exact(cE _ _ _ (by simp)).trans (World.alloc_heap_new w _)
 have vd:Ext (λ_=>lj) w W1:=by rw[<-ua];exact((Ext.refl _ w).alloc _).alloc _
 have vr:I [] C0 W1:=hI _ _ _ _ h0 (vd.mono (λ_ h=>h.elim));have vt:aE w0.heap.size w0 W1:=ux.trans ((vd.below (cd _) (λ_ h=>h.elim)).mono ux.size);refine⟨l,[mark D],W1,{target:= .fn (.func gf) lb,args:=#[.func (.yield l) #[] #[]]},W1,gf,#[.func (.yield l) #[] #[]]++lb,W1, ?_, ?_,λ_ _=>trivial, ?_,λh=>by simp[gx] at h, ?_⟩
 ·rw[<-ua,tD,<-hl,<-hD];exact run_enterLoop_outer _ _ _ _ _
 ·simp only[resolve,hg]
  simp[go_sem]
 ·simp[invoke,go_sem,eg]
 have vu:=hit l
  (λd C W=>∃o:bj->Prop,(∀k,C k↔o k\/k=l\/k=D)/\¬o l/\¬o D/\I d o W/\W.heap[l]?=tf (.loop (y .ready th))/\W.heap[D]?=tf (.deferred (tf [])))
  (λd W=>∃(o:bj->Prop) (c:Code),¬o l/\¬o D/\Ix c d o W/\W.heap[l]?=tf (.loop (y .done (tf c)))/\W.heap[D]?=tf (.deferred (tf [])))
  (λk=>C0 k\/k=l\/k=D) W1 vt ?hst ?hC ?hstx ?hY ⟨C0,λ_=>Iff.rfl,λh=>by have:=(hIC _ _ _ h0 l h).1;omega,λh=>by have:=(hIC _ _ _ h0 D h).1;omega,vr,vp,vq⟩
 case hst=>
  rintro d C X Y ⟨o,z,n1,n2,hi,h1,h2⟩ hx;refine⟨o,z,n1,n2,hI _ _ _ _ hi (hx.mono λk A=>⟨by omega,λh=>A.2 ((z k).2 (.inl h))⟩),hx.heap h1 (λh=>h.2 ((z l).2 (by simp))),hx.heap h2 (λh=>h.2 ((z D).2 (by simp)))⟩
 case hC=>
  rintro d C X ⟨o,z,n1,n2,hi,h1,h2⟩ k A;rcases(z k).1 A with h|rfl|rfl
  ·exact hIC _ _ _ hi k h
  ·exact⟨(br.1 h1).1,λh=>by have:=hRd _ h;omega⟩
  ·exact⟨(br.1 h2).1,λh=>by have:=hRd _ h;omega⟩
 case hstx=>
  rintro d X Y ⟨o,c,n1,n2,hi,h1,h2⟩ hx;exact⟨o,c,n1,n2,hIx _ _ _ _ _ hi (hx.mono λ_ h=>h.elim),hx.heap h1 (λh=>h),hx.heap h2 (λh=>h)⟩
 case hY=>
  rintro d x C W ⟨o,z,n1,n2,hi,tE,tU⟩ ur;have xj:l<W.heap.size:=(br.1 tE).1;have xl:D<W.heap.size:=(br.1 tU).1;have hy:=run_yield (P:=P) (args:=ub x) tE (by rw[tD];exact vm x);rw[tD] at hy;refine qZ (m:=0) ⟨vc,_,assign,body,hy,roundIn_of_wpIn trivial (wpIn_mono (hround l d x o W (by omega) hi ur) ?_)⟩;intro e a₁ W₁ hq;cases e with
  |normal=>
   obtain⟨K,uc,vx,tW,vy⟩:=hq;have vf:=tW.heap tE n1;have we:=tW.heap tU n2;have m1:¬K l:=λh=>by rcases uc l h with h|h;exact n1 h;omega
   have m2:¬K D:=λh=>by rcases uc D h with h|h;exact n2 h;omega
   refine⟨_,run_beginRound vf (by rw[tD]), ?_⟩;obtain⟨E,uv⟩:∃E,W₁.putObj l (.loop {y .ready th with state:= .busy})=E:=⟨_,rfl⟩
   rw[uv];have tG:Ext (·=l) W₁ E:=by rw[<-uv];exact Ext.putObj _ _ _
   have wg:E.heap[l]?=tf (.loop {y .ready th with state:= .busy}):=by rw[<-uv];exact World.putObj_heap_same (br.1 vf).1
   have wj:E.heap[D]?=tf (.deferred (tf [])):=tG.heap we (by omega);have wk:I d K E:=hI _ _ _ _ vx (tG.mono λk A=>by subst A;exact⟨by omega,m1⟩);refine wpIn_mono (vy E wk tG) ?_;have wl:Ext C W W₁:=tW.mono λk h=>(z k).2 (.inl h);have ud:∀(q:cC Code)(f:bj->Prop)(W₃:World),(∀k,f k->K k\/E.heap.size<=k)->Ext K E W₃->
     (Instr.endRound l q).run P W₃= .ok (tt q.isNone) (W₃.putObj l (.loop (y (if q.isNone then .ready else .done) q)))/\
     (W₃.putObj l (.loop (y (if q.isNone then .ready else .done) q))).heap[l]?=tf (.loop (y (if q.isNone then .ready else .done) q))/\
     (W₃.putObj l (.loop (y (if q.isNone then .ready else .done) q))).heap[D]?=tf (.deferred (tf []))/\¬f l/\¬f D/\Ext C W (W₃.putObj l (.loop (y (if q.isNone then .ready else .done) q)))/\
     Ext (λk=>w.heap.size<=k/\¬f k) W₃ (W₃.putObj l (.loop (y (if q.isNone then .ready else .done) q)))/\(∀k,f k->o k\/W.heap.size<=k):=by
    intro q f W₃ G J;have vh:=J.heap wg m1;have ws:=J.heap wj m2;have u:=run_endRound (P:=P) q vh;rw[tD] at u⊢;have R:¬f l:=λh=>by rcases G l h with h|h;exact m1 h;have:=tG.size;have:=tW.size;omega
    have q2:¬f D:=λh=>by rcases G D h with h|h;exact m2 h;have:=tG.size;have:=tW.size;omega
    refine⟨u,World.putObj_heap_same (br.1 vh).1,(World.putObj_heap_other (by omega)).trans ws,R,q2, ?_,(Ext.putObj _ _ _).mono (λk A=>by subst A;exact⟨by omega,R⟩), ?_⟩
    ·refine((wl.trans tG (λj hj=> .inl ((z j).2 (by simp[hj])))).trans J (λj hj=> ?_)).trans (Ext.putObj _ _ _) (λj hj=> .inl ((z j).2 (by simp[hj])))
     rcases uc j hj with h|h
     ·exact .inl ((z j).2 (.inl h))
     ·exact .inr h
    ·intro k A
     rcases G k A with h|h
     ·exact uc k h
     ·right;have:=tG.size;have:=tW.size;omega
   intro e a3 W3 hp;cases e with
   |normal=>
    obtain⟨f,G,tM,J⟩:=hp;obtain⟨u,tP,tR,R,q2,ue,tS,up⟩:=ud th f W3 G J;refine⟨_,_,u,_,rfl,.inl ⟨rfl,λk=>f k\/k=l\/k=D,λk A=> ?_,⟨f,λ_=>Iff.rfl,R,q2,hI _ _ _ _ tM tS,tP,tR⟩,ue⟩⟩;rcases A with h|h|h
    ·rcases up k h with h|h
     ·exact .inl ((z k).2 (.inl h))
     ·exact .inr h
    ·exact .inl ((z k).2 (by simp[h]))
    ·exact .inl ((z k).2 (by simp[h]))
   |ret=>
    obtain⟨f,G,tM,J⟩:=hp;obtain⟨u,tP,tR,R,q2,ue,tS,up⟩:=ud (tf .ret) f W3 G J;exact⟨_,_,u,_,rfl,.inr ⟨rfl,f,.ret,R,q2,hIx _ _ _ _ _ tM tS,tP,tR⟩⟩
   |exit id=>
    obtain⟨f,G,tM,J⟩:=hp;obtain⟨u,tP,tR,R,q2,ue,tS,up⟩:=ud (tf (.exit id)) f W3 G J;exact⟨_,_,u,_,rfl,.inr ⟨rfl,f,.exit id,R,q2,hIx _ _ _ _ _ tM tS,tP,tR⟩⟩
   |goto t=>
    obtain⟨f,G,tM,J⟩:=hp;obtain⟨u,tP,tR,R,q2,ue,tS,up⟩:=ud (tf (.goto t)) f W3 G J;exact⟨_,_,u,_,rfl,.inr ⟨rfl,f,.goto t,R,q2,hIx _ _ _ _ _ tM tS,tP,tR⟩⟩
   |panic ch=>exact hp.elim
   |outgrown=>exact hp.elim
  |exit _=>exact hq.elim
  |goto _=>exact hq.elim
  |ret=>exact hq.elim
  |panic _=>exact hq.elim
  |outgrown=>exact hq.elim
 refine CallsIn.mono ((callsIn_wide (n:=0-1)).2 vu) ?_;rintro e W2 ⟨v,rfl,(⟨f,o,z,n1,n2,hi,tE,tU⟩|⟨d,ur,o,c,n1,n2,hi,tE,tU⟩)⟩
 ·have u:=run_endLoop (P:=P) tE (by rw[tD];simp)
  rw[tD] at u;refine⟨th,_,u,hdone D o _ (by omega) n2 (hI _ _ _ _ hi ((Ext.putObj _ _ _).mono λk A=>by subst A;exact⟨by omega,n1⟩)) ((World.putObj_heap_other (by omega)).trans tU)⟩
 ·have u:=run_endLoop (P:=P) tE (by rw[tD];simp)
  rw[tD] at u;refine⟨tf c,_,u,rv.2 (hstop D c d o _ (by omega) n2 ur (hIx _ _ _ _ _ hi ((Ext.putObj _ _ _).mono λk A=>by subst A;exact⟨by omega,n1⟩)) ((World.putObj_heap_other (by omega)).trans tU))⟩
theorem bytes_inj {x y:bl}(h:x.data.toList=y.data.toList):x=y:=by
 obtain⟨a⟩:=x;obtain⟨b⟩:=y;have:a=b:=Array.ext' h;rw[this]
instance FY:LawfulBEq bl where
 eq_of_beq {a b} h:=bytes_inj (by have:a.data=b.data:=eq_of_beq (show(a.data==b.data)=ti from h);rw[this])
 rfl {a}:=show(a.data==a.data)=ti from BEq.rfl
theorem F9 {x y:bl}(h:x≠y):Lit.string x.data.toList≠Lit.string y.data.toList:=λe=>h (bytes_inj (by simpa using e))
def ints (xs:bp bj):bp aw:=xs.map (λx:bj=>(x:aw))
theorem dL.ext {w w':World}{B:bj}{ao:cC fg}{d:bp Ins}{M:bj->Prop}(h:dL w B ao d)(j:Ext M w w')(y:B<=w.heap.size)(o:∀a,d≠[]->ao=tf a->¬M a.block):dL w' B ao d:=by
 intro e;obtain⟨b,f,g,q,t⟩:=h e;exact⟨b,f,g,q,λi x hi k u v=>by rw[j.cell (a:=⟨b,f+i*13+k,th⟩) (by show b<_;omega) (show¬M b from o _ e g)];exact t i x hi k u v⟩
theorem rf {d:bp Ins}{x y:bj}(h:y∈dm d x):y<d.length:=by
 unfold dm at h
 split at h
 ·simp at h
 ·simp only[fL,List.mem_filter,eP,oY] at h
  obtain⟨z,⟨_,e⟩,rfl⟩:=h;omega
theorem jZ (d:bp Ins)(x:bj):(dm d x).length<=2:=by
 unfold dm
 split
 ·simp
 ·rename_i i _
  have h:(iR i x).length<=2:=by
   unfold iR
   repeat' split
   all_goals simp
  simp only[eq];exact eN (List.length_filter_le _ _) h
theorem Ar {d:bp Ins}{x:bj}{e:Ins}(h:d[x]?=tf e):ints (dm d x)=(iR e x).filter (eP d.length):=by
 unfold dm;rw[h];exact qY _ _
theorem alloc_at (w:World)(o:Obj):(w.alloc o).heap[w.heap.size]?=tf o:=World.alloc_heap_new w o
theorem DL {α:Type}(l:bp α)(p:α->ml){q:bj}{x:α}(h:l[q]?=tf x):(l.take (q+1)).any p=((l.take q).any p||p x):=by
 rw[kA,h,List.any_append];simp
def aH {α:Type}(cells:α->dl cw)(e:bj)(w:World)(B:bj)(ao:cC fg)(xs:bp α):Prop:=
 xs≠[]->∃b d,ao=tf ⟨b,d,th⟩/\b<B/\∀i x,xs[i]?=tf x->∀k u,(cells x).toList[k]?=tf u->w.cell? ⟨b,d+i*e+k,th⟩=tf u
theorem aH.below {α:Type}{cells:α->dl cw}{d:bj}{w w':World}{B n:bj}{ao:cC fg}{xs:bp α}(h:aH cells d w B ao xs)(hb:aE n w w')(f:B<=n):aH cells d w' B ao xs:=by
 intro g;obtain⟨b,j,o,e,q⟩:=h g;exact⟨b,j,o,e,λi x t k u v=>by rw[hb.cell (p:=⟨b,_,th⟩) (cD e f)];exact q i x t k u v⟩
structure DN where
 nm:bl
 fA:cC fg
 nf:bj
 fC:bj
 ln:aw
 cl:aw
def DN.cells (s:DN):dl cw:=#[tm s.nm,tn s.fA s.nf s.fC,Z U s.ln,Z U s.cl]
def DN.light (s:DN):Prop:=s.nf<=40/\s.nm.size<=60
def Ins.ok (i:Ins):Prop:=(∃ao cap,i.argsV= tn ao i.args.length cap)/\∃ao n cap,i.modeV= tn ao n cap
def Ins.light (i:Ins):Prop:=i.args.length<=40/\(∃ao n cap,i.modeV= tn ao n cap/\n<=40)/\i.sign.size<=20
def dP.light (c:dP):Prop:=c.ins.length<=400/\c.nvars<=400/\c.nm.size<=60/\c.nfrom<=40/\∀x∈c.ins,x.light
def dH:bp dP->bj
 |[]=>0
 |c::r=>c.ins.length+c.nvars+dH r
theorem rq (a b:bp dP):dH (a++b)=dH a+dH b:=by
 induction a with
 |nil=>simp[dH]
 |cons x r ih=>simp[dH,ih];omega
def Au (e:bp DN)(d:bp dP):Prop:=e.length<=40/\d.length<=70/\(∀s∈e,s.light)/\(∀c∈d,c.light)/\dH d<=1200
def ru (w:World)(B:bj)(p:Prop)(e:Ending)(w':World):Prop:=∃b:ml,e= tB (tt b)/\(b=ti->p)/\aE B w w'
theorem dw {α:Type}{p:α->Prop}{xs:bp α}{j:bj}{x:α}(h:∀y∈xs.take j,p y)(e:xs[j]?=tf x)(f:p x):∀y∈xs.take (j+1),p y:=by
 rw[aS e];intro y g;rcases dg.1 g with d|d
 ·exact h y d
 ·simp at d;subst d;exact f
theorem wh (w:World)(sA fA:cC fg)(sC fC:bj)(f:bp DN)(d:bp dP)(ue:aH DN.cells 4 w w.heap.size sA f)(up:aH dP.cells 8 w w.heap.size fA d)
  (ur:∀c∈d,dL w w.heap.size c.insA c.ins)(uv:∀c∈d,∀x∈c.ins,x.ok)(hs:f.length<=9223372036854775807)(hc:d.length<=9223372036854775807):
  fj am 70 #[tv #[tn sA f.length sC,tn fA d.length fC]] w (ru w w.heap.size (Au f d)):=by
 have ux:=zH ue;have vc:=zH up;have vd:=zH ur;have vt:=zH uv;clear ue up ur uv
 by_cases g1:40<f.length
 ·go_enter func70,ntmps70
  go_wp2;go_ret;exact⟨_,rfl,by simp,(aq _ _).alloc (cd _) _⟩
 by_cases g2:70<d.length
 ·go_enter func70,ntmps70
  go_wp2;go_ret;exact⟨_,rfl,by simp,(aq _ _).alloc (cd _) _⟩
 go_enter func70,ntmps70;go_wp2;obtain⟨N,y⟩:=zE w.heap.size;obtain⟨t,W⟩:=zE (w.alloc (tA #[tn sA f.length sC,tn fA d.length fC] 25));have tD:=ik W y;have tR:t.heap[N]?=tf (tA #[tn sA f.length sC,tn fA d.length fC] 25 (0,0)):=by rw[<-W,<-y];exact alloc_at _ _
 have vu:t.heap.size=N+1:=by rw[<-W];simp[y]
 have yb:=zR tR 0 (tn sA f.length sC);have vx:=zR tR 1 (tn fA d.length fC);have vy:cg (aH DN.cells 4 t N sA f):=by have:=ux.out;rw[y] at this;exact this.below tD (cd _)
 have we:cg (aH dP.cells 8 t N fA d):=by have:=vc.out;rw[y] at this;exact this.below tD (cd _)
 have wg:cg (∀c∈d,dL t N c.insA c.ins):=λc hc=>by have:=vd.out c hc;rw[y] at this;exact dL.below this tD (cd _)
 rw[W,y];have A:=zH tD;have yd:N<t.heap.size:=by omega
 clear W tD tR ux vc vd vu
 go_loop [4] (λc=>∃j:bj,j<=f.length/\c= Z U (j:aw)/\∀s∈f.take j,s.light) (λc=>f.length-(dp c).toNat)
 case atStart=>exact⟨0,cM _,rfl,by simp⟩
 case round=>
  obtain⟨j,hj,rfl,z⟩:=hrel;have vf:=zH z;clear z
  by_cases E:j<f.length
  ·obtain⟨s,tM⟩:∃s,f[j]?=tf s:=⟨_,ap E⟩
   obtain⟨b,g,rfl,vh,h⟩:=vy.out (by intro e;rw[e] at E;simp at E);have q0:t.cell? ⟨b,g+j*4,th⟩=tf (tm s.nm):=h j s tM 0 _ rfl;have q1:t.cell? ⟨b,g+j*4+1,th⟩=tf (tn s.fA s.nf s.fC):=h j s tM 1 _ rfl;have wj:=zH tM;clear tM h
   by_cases c1:40<s.nf
   ·go_wp2
    go_ret;exact⟨_,rfl,by simp,A.out⟩
   ·by_cases c2:60<s.nm.size
    ·go_wp2
     go_ret;exact⟨_,rfl,by simp,A.out⟩
    ·go_wp2
     go_round
     case rel=>exact⟨j+1,by omega,by go_num,dw vf.out wj.out ⟨by omega,by omega⟩⟩
     case measure=>simp[dp];omega
  ·have tS:j=f.length:=by omega
   subst tS;have wk:cg (∀s∈f,s.light):=by have:=vf.out;rwa [cL] at this
   go_wp2
   go_loopw [3,5] (λn c wr=>∃j:bj,j<=d.length/\c= Z U (j:aw)/\n= Z U ((dH (d.take j):bj):aw)/\dH (d.take j)<=1200/\(∀x∈d.take j,x.light)/\aE (N+1) t wr) (λ_ c _=>d.length-(dp c).toNat)
   case atStart=>exact⟨0,cM _,rfl,rfl,by simp[dH],by simp,aq _ _⟩
   case round=>
    obtain⟨j,hj,rfl,rfl,ht,z,tU⟩:=hrel;have vm:=zH z;have G:=zH tU;have ye:wr.cell? ⟨N,1,th⟩=tf (tn fA d.length fC):=by rw[tU.cell (p:=⟨N,1,th⟩) (by simp)];exact vx
    clear z tU
    by_cases E:j<d.length
    ·obtain⟨c,tW⟩:∃c,d[j]?=tf c:=⟨_,ap E⟩
     obtain⟨b,g,rfl,vh,h⟩:=we.out (by intro e;rw[e] at E;simp at E);have v:∀k u,c.cells.toList[k]?=tf u->wr.cell? ⟨b,g+j*8+k,th⟩=tf u:=λk u hu=>by rw[G.out.cell (p:=⟨b,_,th⟩) (Nat.lt_succ_of_lt vh)];exact h j c tW k u hu
     have q0:wr.cell? ⟨b,g+j*8,th⟩=tf (tm c.nm):=v 0 _ rfl;have q1:wr.cell? ⟨b,g+j*8+1,th⟩=tf (Z U c.par):=v 1 _ rfl;have q2:wr.cell? ⟨b,g+j*8+2,th⟩=tf (tn c.varsA c.nvars c.varsC):=v 2 _ rfl;have q3:wr.cell? ⟨b,g+j*8+3,th⟩=tf (tt c.rp):=v 3 _ rfl;have q4:wr.cell? ⟨b,g+j*8+4,th⟩=tf (tm c.rto):=v 4 _ rfl;have q5:wr.cell? ⟨b,g+j*8+5,th⟩=tf (Z U c.rcl):=v 5 _ rfl;have q6:wr.cell? ⟨b,g+j*8+6,th⟩=tf (tn c.fromA c.nfrom c.fromC):=v 6 _ rfl;have q7:wr.cell? ⟨b,g+j*8+7,th⟩=tf (tn c.insA c.ins.length c.insC):=v 7 _ rfl;have tP:=zH tW;clear tW h v;have tE:∀o:Obj,aE N w (wr.alloc o):=λo=>(A.out.trans (G.out.mono (by omega))).alloc (by have:=G.out.size;omega) _;have wl:N+1<=wr.heap.size:=by have:=G.out.size;omega
     by_cases c1:400<c.ins.length
     ·go_wp2
      go_ret;exact⟨_,rfl,by simp,tE _⟩
     by_cases c2:400<c.nvars
     ·go_wp2
      go_ret;exact⟨_,rfl,by simp,tE _⟩
     by_cases c3:60<c.nm.size
     ·go_wp2
      go_ret;exact⟨_,rfl,by simp,tE _⟩
     by_cases c4:40<c.nfrom
     ·go_wp2
      go_ret;exact⟨_,rfl,by simp,tE _⟩
     have ua:cg (dH (d.take (j+1))=dH (d.take j)+(c.ins.length+c.nvars)):=by
      unfold cg;rw[aS tP.out,rq];simp[dH]
     obtain⟨T,hT⟩:∃T,T=dH (d.take j):=⟨_,rfl⟩
     rw[<-hT] at ht ua⊢;clear hT
     by_cases c5:1200<T+c.ins.length+c.nvars
     ·go_wp2
      go_ret;exact⟨_,rfl,by simp,tE _⟩
     go_wp2;obtain⟨J,K⟩:=zE (wr.alloc (tA c.cells 38));obtain⟨M,hM⟩:=zE wr.heap.size;have vp:J.heap[M]?=tf (tA c.cells 38 (0,0)):=by rw[<-K,<-hM];exact alloc_at _ _
     have ws:=zR vp 7 (tn c.insA c.ins.length c.insC);have tG:cg (aE (N+1) t J):=by rw[<-K];exact G.out.alloc wl _
     have xf:cg (dL J N c.insA c.ins):=dL.below (wg.out c (ci tP.out)) tG.out (by omega);have xj:cg (∀x∈c.ins,x.ok):=vt.out c (ci tP.out);have yi:=zH K;simp only[dP.cells] at K;rw[K,hM];clear K vp hM q0 q1 q2 q3 q4 q5 q6 q7
     go_loop [7] (λk=>∃q:bj,q<=c.ins.length/\k= Z U (q:aw)/\∀x∈c.ins.take q,x.light) (λk=>c.ins.length-(dp k).toNat)
     case atStart=>exact⟨0,cM _,rfl,by simp⟩
     case round=>
      obtain⟨q,hq,rfl,z⟩:=hrel;have vq:=zH z;clear z
      by_cases ub:q<c.ins.length
      ·obtain⟨x,R⟩:∃x,c.ins[q]?=tf x:=⟨_,ap ub⟩
       obtain⟨b2,uc,hA2,yk,h⟩:=xf.out (by intro e;rw[e] at ub;simp at ub);obtain⟨⟨xl,xo,vr⟩,xp,nm,xr,ud⟩:=xj.out x (ci R);have r7:J.cell? ⟨b2,uc+q*13+7,th⟩=tf (tn xl x.args.length xo):=h q x R 7 _ (by rw[<-vr];rfl);have r8:J.cell? ⟨b2,uc+q*13+8,th⟩=tf (tn xp nm xr):=h q x R 8 _ (by rw[<-ud];rfl);have r6:J.cell? ⟨b2,uc+q*13+6,th⟩=tf (tm x.sign):=h q x R 6 _ rfl;rw[hA2] at ws;have xt:=zH R;have xF:=zH ud;clear R h hA2 vr ud
       by_cases d1:40<x.args.length
       ·go_wp2
        go_ret;exact⟨_,rfl,by simp,A.out.trans (tG.out.mono (by omega))⟩
       by_cases d2:40<nm
       ·go_wp2
        go_ret;exact⟨_,rfl,by simp,A.out.trans (tG.out.mono (by omega))⟩
       by_cases d3:20<x.sign.size
       ·go_wp2
        go_ret;exact⟨_,rfl,by simp,A.out.trans (tG.out.mono (by omega))⟩
       go_wp2
       go_round
       case rel=>exact⟨q+1,by omega,by go_num,dw vq.out xt.out ⟨by omega,⟨_,_,_,xF.out,by omega⟩,by omega⟩⟩
       case measure=>simp[dp];omega
      ·have xT:q=c.ins.length:=by omega
       subst xT;have ya:cg c.light:=by
        refine⟨by omega,by omega,by omega,by omega, ?_⟩;have:=vq.out;rwa [cL] at this
       go_wp2;go_roundw
       case rel=>exact⟨j+1,by omega,by go_num,by rw[ua.out];go_num,by rw[ua.out];omega,dw vm.out tP.out ya.out,tG.out⟩
       case measure=>simp[dp];omega
    ·have tS:j=d.length:=by omega
     subst tS;have HM:cg (Au f d):=by
      refine⟨by omega,by omega,wk.out, ?_, ?_⟩
      ·have:=vm.out;rwa [cL] at this
      ·rwa [cL] at ht
     go_wp2;go_ret;have hh:aE N w wr:=A.out.trans (G.out.mono (by omega));exact⟨_,rfl,λ_=>HM.out,by first|exact hh|(rw[y];exact hh)⟩
section
open Go.RowKit Go.ChangeShapes Go.WideShapes Go.Deep
theorem kM {α:Type}(p:bj->α->Prop):∀n,(∀i,i<n->∃a,p i a)->∃xs:bp α,xs.length=n/\∀i x,xs[i]?=tf x->p i x
 |0,_=>⟨[],rfl,λi x h=>by simp at h⟩
 |n+1,h=>by
  obtain⟨xs,d,e⟩:=kM p n (λi hi=>h i (by omega));obtain⟨a,f⟩:=h n (by omega);refine⟨xs++[a],by simp[d],λi x hi=> ?_⟩;rcases Nat.lt_or_ge i n with j|o
  ·rw[mz (by omega)] at hi;exact e i x hi
  ·have g:i<(xs++[a]).length:=(bo.1 hi).1
   simp[d] at g;obtain rfl:i=n:=by omega
   rw[gA (by omega),d] at hi;simp at hi;subst hi;exact f
theorem nC {w:World}{a:fg}{v:cw}(h:w.cell? a=tf v):a=⟨a.block,a.off,th⟩/\a.block<w.heap.size:=by
 unfold World.cell? at h
 split at h
 ·rename_i d
  have e:=(br.1 d).1;obtain⟨b,o,s⟩:=a;cases s with
  |none=>exact⟨rfl,e⟩
  |some s=>simp at h
 ·simp at h
section
variable {H:Type}{enc:fX×cw->H}{P:km}{w:World}{base:bj}{spare:bj->ml}{held:ml}
theorem open_row {α:Type}(cells:α->dl cw)(Q:α->Prop){t e:fX}{fuel:bj}{d:bp cw}{x:DataW H×bp m5}(f:bj)(hst:0<f)(ht:P.underlying t=tf (.slice e))(A:P.cellsOf e=f)
  (tE:∀(n:bj)(d:bp cw)(x:DataW H×bp m5),jp enc P w base spare held n e d=tf x->∃a:α,(cells a).toList=d/\Q a)
  (h:jp enc P w base spare held fuel t d=tf x):
  ∃(ao:cC fg) (xs:bp α) (cap:bj),d=[.slice ao xs.length cap]/\xs.length<=du/\aH cells f w w.heap.size ao xs/\∀a∈xs,Q a:=by
 rcases open_slice ht h with⟨rfl,_⟩|⟨a,E,cap,m,n,D,Pl,rfl,hb,hl,hm,tG,G,hi⟩
 ·exact⟨th,[],0,rfl,cM _,λv=>fz rfl v,λa j=>fz j (by simp)⟩
 ·have tU:E<=m:=by rw[tG];split<;>omega
  obtain⟨xs,tM,J⟩:=kM (λi (x:α)=>Q x/\∀k u,(cells x).toList[k]?=tf u->w.cell? (a.add (i*f+k))=tf u) E (by
   intro i tW;obtain⟨K,y,R⟩:=hi i (by omega);obtain⟨x,W,tP⟩:=tE n K _ R;obtain⟨_,q,g⟩:=World.cells?_some y;rw[A] at q g;refine⟨x,tP,λk u hk=> ?_⟩;have tR:k<f:=by rw[<-q,<-W];exact(bo.1 hk).1
   have:=g k tR;rw[<-Go.Deep.add_add,this,<-W];exact hk)
  refine⟨tf a,xs,cap,by rw[tM],by omega,λv=> ?_,λx G=> ?_⟩
  ·have ua:0<xs.length:=kq.2 v
   obtain⟨K,y,R⟩:=hi 0 (by omega);obtain⟨_,q,g⟩:=World.cells?_some y;rw[A] at q g;have h0:=g 0 hst;rw[ap (by omega),Nat.zero_mul] at h0;obtain⟨j,tS⟩:=nC h0;have tD:a=⟨a.block,a.off,th⟩:=by
    obtain⟨b,o,s⟩:=a;simp[Addr.add] at j⊢;exact j
   refine⟨a.block,a.off,by rw[<-tD],by simpa[Addr.add] using tS,λi x z k u hu=> ?_⟩;have:=(J i x z).2 k u hu;rw[tD,cU,<-Nat.add_assoc] at this;exact this
  ·obtain⟨i,z⟩:=sr.1 G
   exact(J i x z).1
end
theorem Ga {H:Type}{enc:fX×cw->H}{P:km}{w:World}{base:bj}{spare:bj->ml}{held:ml}{r:Reach}{f:bj}{t:fX}{fs:dl Field}{v:cw}{d:DataW H}{p:bp m5}(g:P.underlying t=tf (.struct fs))
  (j:Value.okWide P w r f t v)(h:DataW.Trod enc P w base spare held t v d p):∃(e:dl cw) (fuel:bj),v= .agg e/\jp enc P w base spare held fuel t e.toList=tf (d,p):=by
 obtain⟨e,rfl,_⟩:=okWide_struct g j;obtain⟨fuel,hf⟩:=h;exact⟨e,fuel,rfl,by simpa[Value.cells] using hf⟩
section
variable {H:Type}{enc:fX×cw->H}{w:World}{base:bj}{spare:bj->ml}{held:ml}
def dX (w:World)(ao:cC fg)(xs:bp aw):Prop:=aH (λz:aw=>#[Z U z]) 1 w w.heap.size ao xs
theorem jq {fuel:bj}{d:bp cw}{x:DataW H×bp m5}(h:jp enc am w base spare held fuel 35 d=tf x):
  ∃(ao:cC fg) (xs:bp aw) (cap:bj),d=[.slice ao xs.length cap]/\xs.length<=du/\dX w ao xs/\∀z∈xs,(Lit.int .i64 z).wf=ti:=by
 refine open_row _ (λz=>(Lit.int .i64 z).wf=ti) 1 (by decide) gv (by kernel_rfl) (λn d x e=> ?_) h;obtain⟨z,rfl,_,f⟩:=dy cX e;exact⟨z,rfl,f⟩
def Ins.args_in (w:World)(i:Ins):Prop:=i.ok/\∃ao cap,i.argsV= tn ao i.args.length cap/\dX w ao i.args
theorem DR {n:bj}{j:bp cw}{x:DataW H×bp m5}(h:jp enc am w base spare held n 42 j=tf x):∃i:Ins,i.cells.toList=j/\i.args_in w:=by
 obtain⟨xs,m,_,_,o,R,hf⟩:=eI cA h;have W:am.cellsOf 42=13:=by kernel_rfl
 have vq:xs.length=12:=R;rw[W] at o;obtain⟨c0,vr,e0,tD⟩:=zU o;obtain⟨c1,vt,e1,tE⟩:=zU tD;obtain⟨c2,vu,e2,tG⟩:=zU tE;obtain⟨c3,vx,e3,tM⟩:=zU tG;obtain⟨c4,vy,e4,tP⟩:=zU tM;obtain⟨c5,we,e5,tR⟩:=zU tP;obtain⟨c6,wg,e6,tS⟩:=zU tR;obtain⟨c7,wj,e7,tU⟩:=zU tS;obtain⟨c8,wk,e8,tW⟩:=zU tU;obtain⟨c9,wl,e9,ua⟩:=zU tW;obtain⟨ub,ws,uc,ud⟩:=zU ua;obtain⟨ue,xf,up,ur⟩:=zU ud;obtain⟨uv,xj,ux,vc⟩:=zU ur;obtain rfl:=cV vc;subst ux up uc e9 e8 e7 e6 e5 e4 e3 e2 e1 e0;have g0:=(hf 0 _ rfl).trans (ap (show 0<xs.length by omega));obtain⟨op,r0,_,_⟩:=dy cX g0;obtain rfl:c0= .int .i64 op:=by simpa[show am.cellsOf 3=1 from by kernel_rfl] using r0
 have g1:=(hf 1 _ rfl).trans (ap (show 1<xs.length by omega));obtain⟨d,r1,_,_⟩:=dy cX g1;obtain rfl:c1= .int .i64 d:=by simpa[show am.cellsOf 3=1 from by kernel_rfl] using r1
 have g2:=(hf 2 _ rfl).trans (ap (show 2<xs.length by omega));obtain⟨a,r2,_,_⟩:=dy cX g2;obtain rfl:c2= .int .i64 a:=by simpa[show am.cellsOf 3=1 from by kernel_rfl] using r2
 have g3:=(hf 3 _ rfl).trans (ap (show 3<xs.length by omega));obtain⟨b,r3,_,_⟩:=dy cX g3;obtain rfl:c3= .int .i64 b:=by simpa[show am.cellsOf 3=1 from by kernel_rfl] using r3
 have g4:=(hf 4 _ rfl).trans (ap (show 4<xs.length by omega));obtain⟨f,r4,_,_⟩:=dy cX g4;obtain rfl:c4= .int .i64 f:=by simpa[show am.cellsOf 3=1 from by kernel_rfl] using r4
 have g5:=(hf 5 _ rfl).trans (ap (show 5<xs.length by omega));obtain⟨n,r5,_,_⟩:=dy underlying2 g5;obtain rfl:c5= .int .i64 n:=by simpa[show am.cellsOf 2=1 from by kernel_rfl] using r5
 have g6:=(hf 6 _ rfl).trans (ap (show 6<xs.length by omega));obtain⟨q,r6,_,_⟩:=kp gS g6;obtain rfl:c6= .string q:=by simpa[show am.cellsOf 9=1 from by kernel_rfl] using r6
 have g7:=(hf 7 _ rfl).trans (ap (show 7<xs.length by omega));obtain⟨t,e,u,r7,_,vd,_⟩:=jq g7;obtain rfl:c7= .slice t e.length u:=by simpa[show am.cellsOf 35=1 from by kernel_rfl] using r7
 have g8:=(hf 8 _ rfl).trans (ap (show 8<xs.length by omega));obtain⟨v,y,z,r8,_,xl,_⟩:=jq g8;obtain rfl:c8= .slice v y.length z:=by simpa[show am.cellsOf 35=1 from by kernel_rfl] using r8
 have g9:=(hf 9 _ rfl).trans (ap (show 9<xs.length by omega));obtain⟨A,r9,_,_⟩:=dy cX g9;obtain rfl:c9= .int .i64 A:=by simpa[show am.cellsOf 3=1 from by kernel_rfl] using r9
 have vf:=(hf 10 _ rfl).trans (ap (show 10<xs.length by omega));obtain⟨E,vh,_,_⟩:=dy cX vf;obtain rfl:ub= .int .i64 E:=by simpa[show am.cellsOf 3=1 from by kernel_rfl] using vh
 have vm:=(hf 11 _ rfl).trans (ap (show 11<xs.length by omega));obtain⟨g,m',_,_,_,vp,G⟩:=eI ms vm;have xo:g.length=2:=vp;have p0:=(G 0 _ rfl).trans (ap (show 0<g.length by omega));have p1:=(G 1 _ rfl).trans (ap (show 1<g.length by omega));obtain⟨J,s0,_,_⟩:=dy cX p0;obtain⟨K,s1,_,_⟩:=dy cX p1;obtain rfl:ue= .int .i64 J:=by simpa[show am.cellsOf 3=1 from by kernel_rfl,show am.cellsOf 40=2 from by kernel_rfl] using s0
 obtain rfl:uv= .int .i64 K:=by simpa[show am.cellsOf 3=1 from by kernel_rfl,show am.cellsOf 40=2 from by kernel_rfl] using s1
 exact⟨⟨op,d,a,b,f,n,q,.slice t e.length u,.slice v y.length z,A,E,J,K,e⟩,rfl,⟨⟨_,_,rfl⟩,_,_,_,rfl⟩,_,_,rfl,vd⟩
structure Vr where
 ptr:ml
 tgt:bl
 cls:aw
def Vr.cells (v:Vr):dl cw:=#[tt v.ptr,tm v.tgt,Z U v.cls]
theorem BV {n:bj}{e:bp cw}{x:DataW H×bp m5}(h:jp enc am w base spare held n 34 e=tf x):∃v:Vr,v.cells.toList=e/\True:=by
 obtain⟨xs,m,_,_,f,u,hf⟩:=eI underlying34 h;have y:am.cellsOf 34=3:=by kernel_rfl
 have tE:xs.length=2:=u;rw[y] at f;obtain⟨c0,tG,z,A⟩:=zU f;obtain⟨c1,tM,E,G⟩:=zU A;obtain⟨c2,tP,J,K⟩:=zU G;obtain rfl:=cV K;subst J E z;have R:=(hf 0 _ rfl).trans (ap (show 0<xs.length by omega));have W:=(hf 1 _ rfl).trans (ap (show 1<xs.length by omega));obtain⟨d,m',_,_,_,tD,g⟩:=eI dT R;have tR:d.length=2:=tD;have p0:=(g 0 _ rfl).trans (ap (show 0<d.length by omega));have p1:=(g 1 _ rfl).trans (ap (show 1<d.length by omega));obtain⟨j,s0,_⟩:=DataW.trod_bool mu p0;obtain⟨o,s1,_,_⟩:=kp gS p1;obtain⟨q,s2,_,_⟩:=dy cX W;have z1:am.cellsOf 4=1:=by kernel_rfl
 have z2:am.cellsOf 9=1:=by kernel_rfl
 have z3:am.cellsOf 3=1:=by kernel_rfl
 have t:am.cellsOf 32=2:=by kernel_rfl
 obtain rfl:c0= .bool j:=by simpa[z1,t] using s0
 obtain rfl:c1= .string o:=by simpa[z2,t] using s1
 obtain rfl:c2= .int .i64 q:=by simpa[z3] using s2
 exact⟨⟨j,o,q⟩,rfl,trivial⟩
structure dP.inn (w:World)(c:dP):Prop where
 row:dL w w.heap.size c.insA c.ins
 args:∀x∈c.ins,x.args_in w
 len:c.ins.length<=du
 vars:∃vs:bp Vr,vs.length=c.nvars/\aH Vr.cells 3 w w.heap.size c.varsA vs
 nvars:c.nvars<=du
 nfrom:c.nfrom<=du
 froms:∃fs:bp aw,fs.length=c.nfrom/\dX w c.fromA fs
end
theorem Ins.args_in.below {w w':World}{i:Ins}(h:i.args_in w)(hb:aE w.heap.size w w'):i.args_in w':=by
 obtain⟨d,ao,cap,e,f⟩:=h;refine⟨d,ao,cap,e,λg=> ?_⟩;obtain⟨b,j,o,q,t⟩:=aH.below f hb (cd _) g;exact⟨b,j,o,cD q hb.size,t⟩
theorem aH.grow {α:Type}{cells:α->dl cw}{d:bj}{w w':World}{ao:cC fg}{xs:bp α}(h:aH cells d w w.heap.size ao xs)(hb:aE w.heap.size w w'):aH cells d w' w'.heap.size ao xs:=by
 intro e;obtain⟨b,f,g,j,o⟩:=h.below hb (cd _) e;exact⟨b,f,g,cD j hb.size,o⟩
theorem dP.inn.below {w w':World}{c:dP}(h:c.inn w)(hb:aE w.heap.size w w'):c.inn w':=
 ⟨aH.grow (cells:=Ins.cells) h.row hb,λx d=>(h.args x d).below hb,h.len,let ⟨e,a,b⟩:=h.vars;⟨e,a,b.grow hb⟩,h.nvars,h.nfrom,let ⟨fs,a,b⟩:=h.froms;⟨fs,a,aH.grow b hb⟩⟩
end
abbrev Ty:=ml×bl
def bG:Ty:=(tj,kh)
structure Fd where
 nm:bl
 ptr:ml
 tgt:bl
 ln:aw
 cl:aw
def Fd.cells (f:Fd):dl cw:=#[tm f.nm,tt f.ptr,tm f.tgt,Z U f.ln,Z U f.cl]
def Fd.ty (f:Fd):Ty:=(f.ptr,f.tgt)
def Vr.ty (v:Vr):Ty:=(v.ptr,v.tgt)
structure St where
 s:DN
 fs:bp Fd
def St.cells (s:St):dl cw:=s.s.cells
structure Fn where
 c:dP
 vs:bp Vr
 frm:bp aw
 mds:bp (bp aw)
def Fn.cells (f:Fn):dl cw:=f.c.cells
def Fn.ret (f:Fn):Ty:=(f.c.rp,f.c.rto)
structure Mo where
 sA:cC fg
 sC:bj
 fA:cC fg
 fC:bj
 ss:bp St
 fs:bp Fn
def Mo.cells (m:Mo):dl cw:=#[tn m.sA m.ss.length m.sC,tn m.fA m.fs.length m.fC]
structure Fn.inn (w:World)(f:Fn):Prop where
 code:f.c.inn w
 nm:f.c.nm.size<=du
 nvars:f.c.nvars=f.vs.length
 vars:aH Vr.cells 3 w w.heap.size f.c.varsA f.vs
 nfrom:f.c.nfrom=f.frm.length
 frm:dX w f.c.fromA f.frm
 nmds:f.mds.length=f.c.ins.length
 mds:∀(k:bj)(i:Ins)(l:bp aw),f.c.ins[k]?=tf i->f.mds[k]?=tf l->∃ao cap,i.modeV= tn ao l.length cap/\dX w ao l
structure St.inn (w:World)(s:St):Prop where
 nf:s.s.nf=s.fs.length
 row:aH Fd.cells 5 w w.heap.size s.s.fA s.fs
 len:s.fs.length<=du
 nm:s.s.nm.size<=du
 fnm:∀f∈s.fs,f.nm.size<=du
structure Mo.inn (w:World)(m:Mo):Prop where
 srow:aH St.cells 4 w w.heap.size m.sA m.ss
 frow:aH Fn.cells 8 w w.heap.size m.fA m.fs
 sin:∀s∈m.ss,s.inn w
 fin:∀f∈m.fs,f.inn w
 ns:m.ss.length<=du
 nf:m.fs.length<=du
theorem Fn.inn.below {w w':World}{f:Fn}(h:f.inn w)(hb:aE w.heap.size w w'):f.inn w':=
 ⟨h.code.below hb,h.nm,h.nvars,h.vars.grow hb,h.nfrom,aH.grow h.frm hb,h.nmds,λk i l d e=>by
  obtain⟨ao,cap,g,j⟩:=h.mds k i l d e;exact⟨ao,cap,g,aH.grow j hb⟩⟩
theorem St.inn.below {w w':World}{s:St}(h:s.inn w)(hb:aE w.heap.size w w'):s.inn w':=⟨h.nf,h.row.grow hb,h.len,h.nm,h.fnm⟩
theorem Mo.inn.below {w w':World}{m:Mo}(h:m.inn w)(hb:aE w.heap.size w w'):m.inn w':=
 ⟨h.srow.grow hb,h.frow.grow hb,λs d=>(h.sin s d).below hb,λf hf=>(h.fin f hf).below hb,h.ns,h.nf⟩
section
variable {P:km}{ops:dl kj}{Q:Exit->Act->World->Prop}{md:ii}{S:World->Prop}{k:bj}
inductive iW (md:ii) (ops:dl kj) (k:bj) (listed:dl ml):bj->Prop
 |last {i:bj} {o:kj} {e:Edge}:listed[i]?=tf tj->ops[k]?=tf o->e∈o.after->gw md e=ti->e.on=i->iW md ops k listed i
 |step {i j:bj} {o:kj} {e:Edge}:listed[i]?=tf tj->ops[j]?=tf o->e∈o.after->gw md e=ti->e.on=i->iW md ops k listed j->iW md ops k listed i
theorem iW.un {listed:dl ml}{i:bj}(h:iW md ops k listed i):listed[i]?=tf tj:=by cases h<;>assumption
theorem lG {listed:dl ml}{i j:bj}{o:kj}{e:Edge}(g:listed[i]?=tf tj)(h:ops[j]?=tf o)(q:e∈o.after)(hb:gw md e=ti)(hi:e.on=i):j∉em md ops listed:=by
 intro t;obtain⟨_,v,d,u⟩:=mem_ready.1 t;rw[h] at d;obtain rfl:=cy d;have f:=u e q hb;rw[hi] at f;simp[g] at f
theorem iW.notReady {listed:dl ml}{i:bj}(h:iW md ops k listed i):k∉em md ops listed:=by
 induction h with
 |last d e f hb hi=>exact lG d e f hb hi
 |step _ _ _ _ _ _ ih=>exact ih
theorem iW.set {listed:dl ml}{i:bj}(h:iW md ops k listed i){j:bj}(q:j∈em md ops listed)(o:j≠i):iW md ops k (listed.setIfInBounds j ti) i:=by
 induction h with
 |last d f g hb hi=>exact .last (by rw[lr o];exact d) f g hb hi
 |step d f g hb hi t ih=>exact .step (by rw[lr o];exact d) f g hb hi (ih (λe=>by subst e;exact lG d f g hb hi q))
def kN (md:ii)(ops:dl kj)(k:bj)(listed:dl ml):bj->bj->ml
 |0,_=>tj
 |f+1,i=>(listed[i]?==tf tj)&&((ops[k]?).any (λo=>o.after.any λe=>gw md e&&e.on==i)||
   (gb ops.size).any λj=>(ops[j]?).any (λo=>o.after.any λe=>gw md e&&e.on==i)&&kN md ops k listed f j)
theorem yt {listed:dl ml}:∀(f i:bj),kN md ops k listed f i=ti->iW md ops k listed i
 |0,_,h=>by simp[kN] at h
 |f+1,i,h=>by
  simp only[kN,ej,ip,sR,js,po,pD] at h;obtain⟨q,t⟩:=h;rcases t with⟨o,d,e,g,hb,hi⟩|⟨j,_,⟨o,d,e,g,hb,hi⟩,u⟩
  ·exact .last q d g hb hi
  ·exact .step q d g hb hi (yt f j u)
end
section
variable {P:km}{ops:dl kj}{md:ii}{C:World->Prop}{Q:Exit->Act->World->Prop}{k:bj}
def ry (P:km)(md:ii)(ops:dl kj)(C:World->Prop)(Q:Exit->Act->World->Prop)(k:bj):bj->dl ml->Act->Prop
 |0,_,_=>lj
 |fuel+1,listed,a=>(em md ops listed=[]->lj)/\
  ∀i∈em md ops listed,if i=k then(∀w,C w->wpOp P ops Q i (rL P md ops Q fuel (listed.setIfInBounds i ti)) a w) else qOp P ops C i (ry P md ops C Q k fuel (listed.setIfInBounds i ti)) a
theorem rz:∀(fuel:bj)(listed:dl ml)(a:Act)(w:World),C w->ry P md ops C Q k fuel listed a->rL P md ops Q fuel listed a w
 |0,_,_,_,_,h=>h.elim
 |fuel+1,listed,a,w,f,h=>by
  refine⟨λh0=>(h.1 h0).elim,λi hi=> ?_⟩;have d:=h.2 i hi
  by_cases e:i=k
  ·rw[cH e] at d
   exact d w f
  ·rw[bw e] at d
   exact wpOp_of_qOp f (λg w' j o=>rz fuel _ g w' j o) d
theorem wm {i:bj}{f:kj}{v:cw}(hi:ops[i]?=tf f)(E:∀(j:bj)(o:kj) q b,ops[j]?=tf o->o.op≠ .select q b):
  ∀(fuel:bj)(listed:dl ml)(a:Act),
   (∀j d,ops[j]?=tf d->j≠i->listed.getD j ti=tj->(∀e∈d.after,gw md e=ti->e.on≠i)->f.apart ops d=ti)->
   i∈em md ops listed->iW md ops k listed i->YieldsIn P ops C f v a->
   ry P md ops C Q k fuel (listed.setIfInBounds i ti) (a.put f.dst v)->ry P md ops C Q k (fuel+1) listed a:=by
 intro fuel
 induction fuel with
 |zero=>intro listed a _ _ _ _ H;exact H.elim
 |succ fuel ih=>
  intro listed a G z A J H;refine⟨λh=>(by rw[h] at z;cases z),λj t=> ?_⟩;have u:j≠k:=λe=>by subst e;exact A.notReady t
  rw[bw u]
  by_cases g:j=i
  ·subst g;exact J.qOp hi H
  ·have K:=H.2 j (ready_mono t g)
   rw[bw u] at K;obtain⟨R,d,y,tR⟩:=mem_ready.1 t;have tD:∀e∈d.after,gw md e=ti->e.on≠i:=λe he hb tE=>lG A.un y he hb tE t;have h2:=qOp_put y (G j d y g R tD) (λq b=>E i f q b hi) (λq b=>E j d q b y) J K;have tG:∀k x,ops[k]?=tf x->k≠i->(listed.setIfInBounds j ti).getD k ti=tj->
     (∀e∈x.after,gw md e=ti->e.on≠i)->f.apart ops x=ti:=λk x hk tM W tP=>by
    refine G k x hk tM ?_ tP
    by_cases u:j=k
    ·subst u;exact R
    ·rw[getD_set_ne ti u] at W;exact W
   refine qOp_mono (λa' h3=>ih (listed.setIfInBounds j ti) a' tG (ready_mono z (Ne.symm g)) (A.set t g) h3.1 ?_) h2;rw[Array.setIfInBounds_comm _ _ g];exact h3.2
def vk (md:ii)(ops:dl kj)(i k:bj):ml:=
 (gb (k-i)).any λd=>(ops[i+1+d]?).any λo=>o.after.any λe=>gw md e&&e.on==i
theorem yu {listed:dl ml}:∀(n i:bj),i+n=k->0<n->(∀j,i<=j->j<k->vk md ops j k=ti/\listed[j]?=tf tj)->iW md ops k listed i
 |0,_,_,h0,_=>fz h0 (Nat.lt_irrefl _)
 |n+1,i,E,_,h=>by
  obtain⟨g,q⟩:=h i (cd _) (by omega);unfold vk at g;simp only[js,pf,po,pD,ej,sR] at g;obtain⟨d,z,o,f,e,t,hb,hi⟩:=g
  by_cases u:i+1+d=k
  ·rw[u] at f
   exact .last q f t hb hi
  ·exact .step q f t hb hi (leads_links_aux n (i+1+d) (by omega) (by omega) λj A v=>h j (by omega) v)
where
 leads_links_aux {listed:dl ml}:∀(m i:bj),i<k->k-i<=m->(∀j,i<=j->j<k->vk md ops j k=ti/\listed[j]?=tf tj)->iW md ops k listed i
  |0,i,g,q,_=>fz q (by omega)
  |m+1,i,g,q,h=>by
   obtain⟨x,y⟩:=h i (cd _) g;unfold vk at x;simp only[js,pf,po,pD,ej,sR] at x;obtain⟨d,z,o,f,e,t,hb,hi⟩:=x
   by_cases u:i+1+d=k
   ·rw[u] at f
    exact .last y f t hb hi
   ·exact .step y f t hb hi (leads_links_aux m (i+1+d) (by omega) (by omega) λj A v=>h j (by omega) v)
def kP (md:ii)(ops:dl kj):bj->bj->dl ml->ml
 |0,i,listed=>em md ops listed==[i]
 |n+1,i,listed=>(em md ops listed).contains i&&mL md ops listed i&&vk md ops i (i+n+1)&&listed[i]?==tf tj&&kP md ops n (i+1) (listed.setIfInBounds i ti)
theorem pY {md:ii}{ops:dl kj}:∀(n i:bj)(listed:dl ml),kP md ops n i listed=ti->∀j,i<=j->j<i+n->vk md ops j (i+n)=ti/\listed[j]?=tf tj
 |0,_,_,_,j,g,d=>fz d (by omega)
 |n+1,i,listed,h,j,g,d=>by
  simp only[kP,ej,sR] at h;obtain⟨⟨⟨⟨_,_⟩,o⟩,q⟩,t⟩:=h
  by_cases e:j=i
  ·subst e;exact⟨o,q⟩
  ·obtain⟨u,f⟩:=pY n (i+1) _ t j (by omega) (by omega)
   refine⟨by rw[show i+(n+1)=i+1+n from by omega];exact u, ?_⟩;rw[lr (λv=>e v.symm)] at f;exact f
def wu:bj->bj->dl ml->dl ml
 |0,i,listed=>listed.setIfInBounds i ti
 |n+1,i,listed=>wu n (i+1) (listed.setIfInBounds i ti)
theorem rA {g:Act->Prop}(u:fR ops=ti){fuel:bj}:∀(l:bp kj)(i:bj)(listed:dl ml)(a:Act),i+l.length=k->(∀j,j<l.length->l[j]?=ops[i+j]?)->
  kP md ops l.length i listed=ti->(∀a w,g a->C w->wpOp P ops Q k (rL P md ops Q fuel (wu l.length i listed)) a w)->
  qS P ops C g l a->ry P md ops C Q k (l.length+1+fuel) listed a
 |[],i,listed,a,e,_,d,q,h=>by
  have y:i=k:=by simpa using e
  subst y;simp only[ks,kP,sR] at d;rw[show([]:bp kj).length+1+fuel=fuel+1 from by simp;omega];refine⟨λh0=>(by rw[d] at h0;cases h0),λj t=> ?_⟩;rw[d] at t;obtain rfl:=cP.1 t;rw[cH rfl];intro w z;exact q a w h z
 |o::l,i,listed,a,e,x,d,q,h=>by
  have A:=d;have h0:ops[i]?=tf o:=by have:=x 0 (by simp);simpa using this.symm
  simp only[eh,kP,ej] at d;obtain⟨⟨⟨⟨E,hf⟩,_⟩,_⟩,G⟩:=d;have hst:qOp P ops C i (qS P ops C g l) a:=by unfold qOp;simp only[h0];exact h
  obtain⟨v,J,K⟩:=yieldsIn_of_qOp h0 hst;have f:(o::l).length=l.length+1:=rfl;rw[show(o::l).length+1+fuel=(l.length+1+fuel)+1 from by rw[f];omega];refine wm h0 (Region.noSelect_spec u) _ listed a (Region.free_spec h0 hf) (by simpa using E) ?_ J
   (rA u l (i+1) _ _ (by rw[f] at e;omega) (λj t=>by have:=x (j+1) (by rw[f];omega);simpa[Nat.add_assoc,qr 1 j] using this) G q K)
  refine yu (o::l).length i e (by rw[f];omega) λj R W=> ?_;have:=pY _ _ _ A j R (by omega);rw[e] at this;exact this
theorem yw {fuel:bj}{listed:dl ml}{a:Act}{w:World}(l:bp kj)(i:bj)(f:fR ops=ti)(g:kP md ops l.length i listed=ti)(o:(ops.toList.drop i).take l.length=l)(C:World->Prop)(hC:C w)(d:dl ml)
  (q:wu l.length i listed=d)
  (h:qS P ops C (λe=>∀w,C w->wpOp P ops Q (i+l.length) (rL P md ops Q fuel d) e w) l a):rL P md ops Q (l.length+1+fuel) listed a w:=by
 refine rz (k:=i+l.length) _ _ _ _ hC (rA f l i listed a rfl (λj t=> ?_) g (λe w' u v=> ?_) h)
 ·have x:l[j]?=((ops.toList.drop i).take l.length)[j]? :=by rw[o]
  rw[x,lO,cH t,pZ];simp
 ·rw[q];exact u w' v
theorem Av {listed:dl ml}{a:Act}{w:World}(l:bp kj)(i:bj)(e:fR ops=ti)(f:Region.lexFrom md ops l.length i listed=ti)(g:ops.toList.drop i=l)(C:World->Prop)(hC:C w)
  (h:qS P ops C (λd=>∀w',C w'->Q .normal d w') l a):rL P md ops Q l.length listed a w:=by
 refine wpAny_of_quiet (Q:=λd=>∀w',C w'->Q .normal d w') (λ_ w' o h=>h w' o) _ _ _ _ hC (wpAnyQ_lex e l i listed a (λj=> ?_) f h);rw[<-g,pZ];simp
section
variable {l:bp kj}
theorem qE {id:bj}{a:Act}{w:World}(n fuel:bj)(e:l.length=n+1+fuel)(f:P.follows .mixedOrders=ti)(g:fR l.toArray=ti)(j:kP .any l.toArray n 0 (fk (n+1+fuel) tj)=ti)(C:World->Prop)(hC:C w.drew)
  (h:qS P l.toArray C (λo=>∀w,C w->wpOp P l.toArray Q n (rL P .any l.toArray Q fuel (wu n 0 (fk (n+1+fuel) tj))) o w) (l.take n) a):(Code.region id l.toArray ti).wp P Q a w:=by
 refine wp_region_any f ?_;have d:(l.take n).length=n:=by rw[ee];omega
 have q:l.toArray.size=n+1+fuel:=by simpa using e
 rw[q];have:=yw (P:=P) (ops:=l.toArray) (md:= .any) (Q:=Q) (fuel:=fuel) (listed:=fk (n+1+fuel) tj) (a:=a) (w:=w.drew) (l.take n) 0 g (by rw[d];exact j) (by rw[d];simp) C hC _ rfl (by rw[d,cI];exact h);rw[d] at this;exact this
theorem bf {listed:dl ml}{a:Act}{w:World}{d:bj}(i:bj)(o:l.length=i+d)(f:fR l.toArray=ti)(g:Region.lexFrom md l.toArray d i listed=ti)(C:World->Prop)(hC:C w)
  (h:qS P l.toArray C (λj=>∀w',C w'->Q .normal j w') (l.drop i) a):rL P md l.toArray Q d listed a w:=by
 have e:(l.drop i).length=d:=by rw[List.length_drop];omega
 have:=Av (P:=P) (ops:=l.toArray) (md:=md) (Q:=Q) (listed:=listed) (a:=a) (w:=w) (l.drop i) i f (by rw[e];exact g) (by simp) C hC h;rw[e] at this;exact this
end
end
section
variable {P:km}{ops:dl kj}{Q:Exit->Act->World->Prop}{md:ii}{S:World->Prop}{k:bj}
def cZ (P:km)(md:ii)(ops:dl kj)(Q:Exit->Act->World->Prop)(S:World->Prop)(k:bj):bj->dl ml->Act->World->Prop
 |0,_,_,_=>lj
 |fuel+1,listed,a,w=>
  (em md ops listed=[]->lj)/\
  ∀i∈em md ops listed,wpOp P ops Q i (λd w'=>if i=k then rL P md ops Q fuel (listed.setIfInBounds i ti) d w' else S w'/\cZ P md ops Q S k fuel (listed.setIfInBounds i ti) d w') a w
theorem ek:∀(fuel:bj)(listed:dl ml)(a:Act)(w:World),cZ P md ops Q S k fuel listed a w->rL P md ops Q fuel listed a w
 |0,_,_,_,h=>h.elim
 |fuel+1,_,_,_,h=>⟨λh0=>(h.1 h0).elim,λi hi=>wpOp_mono (λf w' d=>by
   by_cases e:i=k
   ·rw[cH e] at d;exact d
   ·rw[bw e] at d;exact ek fuel _ f w' d.2) (h.2 i hi)⟩
theorem ww {i:bj}{d:kj}{v:cw}(hi:ops[i]?=tf d)(G:∀(j:bj)(o:kj) q b,ops[j]?=tf o->o.op≠ .select q b)
  (hQ:∀c a w,Q (.panic c) (a.put d.dst v) w->Q (.panic c) a w):
  ∀(fuel:bj)(listed:dl ml)(a:Act)(w:World),
   (∀j f,ops[j]?=tf f->j≠i->listed.getD j ti=tj->(∀e∈f.after,gw md e=ti->e.on≠i)->d.apart ops f=ti)->
   i∈em md ops listed->iW md ops k listed i->YieldsIf P ops S d v a->S w->
   cZ P md ops Q S k fuel (listed.setIfInBounds i ti) (a.put d.dst v) w->cZ P md ops Q S k (fuel+1) listed a w:=by
 intro fuel
 induction fuel with
 |zero=>intro listed a w _ _ _ _ _ H;exact H.elim
 |succ fuel ih=>
  intro listed a w J x y K R H;have tG:i≠k:=λe=>by subst e;exact y.notReady x
  refine⟨λh=>(by rw[h] at x;cases x),λj t=> ?_⟩
  by_cases g:j=i
  ·subst g;exact K.wpOp hi R (by rw[bw tG];exact⟨R,H⟩)
  ·have z:j≠k:=λe=>by subst e;exact y.notReady t
   have W:=H.2 j (ready_mono t g);simp only[bw z] at W⊢;obtain⟨tD,f,A,tW⟩:=mem_ready.1 t;have tM:∀e∈f.after,gw md e=ti->e.on≠i:=λe he hb tP=>lG y.un A he hb tP t;have h2:=wpOp_putIf A (J j f A g tD tM) (λq b=>G i d q b hi) (λq b=>G j f q b A) hQ K W;have tR:∀k u,ops[k]?=tf u->k≠i->(listed.setIfInBounds j ti).getD k ti=tj->
     (∀e∈u.after,gw md e=ti->e.on≠i)->d.apart ops u=ti:=λk u hk tS tE tU=>by
    refine J k u hk tS ?_ tU
    by_cases z:j=k
    ·subst z;exact tD
    ·rw[getD_set_ne ti z] at tE;exact tE
   refine wpOp_mono (λa' w' E=>⟨E.2.1,ih (listed.setIfInBounds j ti) a' w' tR (ready_mono x (Ne.symm g)) (y.set t g) E.1 E.2.1 ?_⟩) h2;rw[Array.setIfInBounds_comm _ _ g];exact E.2.2
theorem kQ {i:bj}{d:kj}{v:cw}{fuel:bj}{listed:dl ml}{a:Act}{w:World}(hi:ops[i]?=tf d)
  (e:fR ops=ti)(hf:mL md ops listed i=ti)(f:(em md ops listed).contains i=ti)(g:kN md ops k listed ops.size i=ti)
  (j:∀c a w,Q (.panic c) (a.put d.dst v) w->Q (.panic c) a w)(o:YieldsIf P ops S d v a)(q:S w)
  (h:cZ P md ops Q S k fuel (listed.setIfInBounds i ti) (a.put d.dst v) w):cZ P md ops Q S k (fuel+1) listed a w:=
 ww hi (Region.noSelect_spec e) j fuel listed a w (Region.free_spec hi hf) (by simpa using f) (yt _ _ g) o q h
theorem Aw {i:bj}{o:kj}{fuel:bj}{listed:dl ml}{a:Act}{w:World}(e:em md ops listed=[i])(g:i≠k)(q:ops[i]?=tf o)
  (h:∀d:Act->World->Prop,(∀a w,S w->cZ P md ops Q S k fuel (listed.setIfInBounds i ti) a w->d a w)->if gd o (oc ops a.tmps)=ti then mp P o a w d Q else d (a.put o.dst undef) w):
  cZ P md ops Q S k (fuel+1) listed a w:=by
 refine⟨λh0=>(by rw[e] at h0;cases h0),λj f=> ?_⟩;rw[e] at f;obtain rfl:=cP.1 f;simp only[bw g];exact wpOp_step q (λd t=>h d (λa w u v=>t a w ⟨u,v⟩))
theorem DT {o:kj}{fuel:bj}{listed:dl ml}{a:Act}{w:World}(e:em md ops listed=[k])(g:ops[k]?=tf o)
  (h:∀d:Act->World->Prop,(∀a w,rL P md ops Q fuel (listed.setIfInBounds k ti) a w->d a w)->if gd o (oc ops a.tmps)=ti then mp P o a w d Q else d (a.put o.dst undef) w):
  cZ P md ops Q S k (fuel+1) listed a w:=by
 refine⟨λh0=>(by rw[e] at h0;cases h0),λj f=> ?_⟩;rw[e] at f;obtain rfl:=cP.1 f;simp only[lk];exact wpOp_step g (λd q=>h d q)
theorem aj {id:bj}{a:Act}{w:World}(k:bj)(S:World->Prop)(d:P.follows .mixedOrders=ti)
  (h:cZ P .any ops Q S k ops.size (fk ops.size tj) a w.drew):(Code.region id ops ti).wp P Q a w:=
 wp_region_any d (ek _ _ _ _ h)
theorem yx {o:kj}{a:Act}(h:gd o (oc ops a.tmps)=ti)(e:fX)(x:Operand)(q:o.op= .load e x)
  (g:fg)(t:a.eval x= tr (tf g))(f:dl cw)(d:TypeDesc)(v:∀w,S w->∀j u,f.toList[j]?=tf u->w.cell? (g.add j)=tf u)
  (y:P.underlying e=tf d)(z:(match d with| .struct _| .array _ _=>ti|_=>tj)=ti)(hi:(P.info? e).map (·.size)=tf f.size):YieldsIf P ops S o (tv f) a:=by
 refine Or.inl ⟨h,λw A=> ?_⟩;unfold execOp;simp only[q,t,Instr.loadAt,Instr.sureAddr,ft,rn,kB,iV w g e f d (v w A) y z hi]
theorem zT {C:World->Prop}(i:bj){d:kj}{v:cw}{fuel:bj}{listed:dl ml}{a:Act}{w:World}(hi:ops[i]?=tf d)
  (hC:∀w,S w->C w)
  (h:cZ P md ops Q S k fuel (listed.setIfInBounds i ti) (a.put d.dst v) w)
  (f:∀w,C w->(execOp a.eval d).run P w= .ok (.value v) w:=by intro w e;go_simp;try rfl)
  (e:gd d (oc ops a.tmps)=ti:=by rfl)
  (g:fR ops=ti:=by kernel_rfl)(hf:mL md ops listed i=ti:=by kernel_rfl)(j:(em md ops listed).contains i=ti:=by kernel_rfl)(o:kN md ops k listed ops.size i=ti:=by kernel_rfl)
  (q:∀c a w,Q (.panic c) (a.put d.dst v) w->Q (.panic c) a w:=by exact λ_ _ _ h=>h)(t:S w:=by assumption):cZ P md ops Q S k (fuel+1) listed a w:=
 kQ hi g hf j o q (.inl ⟨e,λw h=>f w (hC w h)⟩) t h
theorem zN (i:bj){d:kj}{fuel:bj}{listed:dl ml}{a:Act}{w:World}(hi:ops[i]?=tf d)
  (h:cZ P md ops Q S k fuel (listed.setIfInBounds i ti) (a.put d.dst undef) w)
  (e:gd d (oc ops a.tmps)=tj:=by rfl)
  (f:fR ops=ti:=by kernel_rfl)(hf:mL md ops listed i=ti:=by kernel_rfl)(g:(em md ops listed).contains i=ti:=by kernel_rfl)(j:kN md ops k listed ops.size i=ti:=by kernel_rfl)
  (o:∀c a w,Q (.panic c) (a.put d.dst undef) w->Q (.panic c) a w:=by exact λ_ _ _ h=>h)(q:S w:=by assumption):cZ P md ops Q S k (fuel+1) listed a w:=
 kQ hi f hf g j o (.inr ⟨e,rfl⟩) q h
theorem zO (i:bj){o:kj}{fuel:bj}{listed:dl ml}{a:Act}{w:World}(e:ops[i]?=tf o)
  (h:∀d:Act->World->Prop,(∀a w,S w->cZ P md ops Q S k fuel (listed.setIfInBounds i ti) a w->d a w)->mp P o a w d Q)
  (f:gd o (oc ops a.tmps)=ti:=by rfl)(g:em md ops listed=[i]:=by kernel_rfl)(j:i≠k:=by decide):
  cZ P md ops Q S k (fuel+1) listed a w:=Aw g j e λd q=>by rw[cH f];exact h d q
theorem zK {o:kj}{fuel:bj}{listed:dl ml}{a:Act}{w:World}(e:ops[k]?=tf o)
  (h:∀d:Act->World->Prop,(∀a w,rL P md ops Q fuel (listed.setIfInBounds k ti) a w->d a w)->mp P o a w d Q)
  (f:gd o (oc ops a.tmps)=ti:=by rfl)(g:em md ops listed=[k]:=by kernel_rfl):
  cZ P md ops Q S k (fuel+1) listed a w:=DT g e λd j=>by rw[cH f];exact h d j
theorem zL (i:bj){e:kj}{fuel:bj}{listed:dl ml}{a:Act}{w:World}(hi:ops[i]?=tf e)(g:fX){x:Operand}(o:fg){f:dl cw}{d:TypeDesc}
  (q:∀w,S w->∀j u,f.toList[j]?=tf u->w.cell? (o.add j)=tf u)(t:P.underlying g=tf d)
  (h:cZ P md ops Q S k fuel (listed.setIfInBounds i ti) (a.put e.dst (tv f)) w)
  (v:e.op= .load g x:=by rfl)(y:a.eval x= tr (tf o):=by rfl)
  (z:(match d with| .struct _| .array _ _=>ti|_=>tj)=ti:=by rfl)(A:(P.info? g).map (·.size)=tf f.size:=by kernel_rfl)
  (E:gd e (oc ops a.tmps)=ti:=by rfl)
  (G:fR ops=ti:=by kernel_rfl)(hf:mL md ops listed i=ti:=by kernel_rfl)(J:(em md ops listed).contains i=ti:=by kernel_rfl)(K:kN md ops k listed ops.size i=ti:=by kernel_rfl)
  (R:∀c a w,Q (.panic c) (a.put e.dst (tv f)) w->Q (.panic c) a w:=by exact λ_ _ _ h=>h)(W:S w:=by assumption):cZ P md ops Q S k (fuel+1) listed a w:=
 kQ hi G hf J K R (yx E g x v o y f d q t z A) W h
end
theorem aM {P:km}{fn:Func}{p u:Tmp}{d:fX}(h:fn.results=#[.cell p d,.tmp u])(tmps:dl cw)(w:World)(g:bj)(t:fX)(f:dl cw)(j:bj×bj)(fs:dl Field)
  (o:tmps.getD p undef= tr (tf ⟨g,0,th⟩))(q:w.heap[g]?=tf (tA f t j))
  (v:P.underlying d=tf (.struct fs))(hi:(P.info? d).map (·.size)=tf f.size):
  (rr fn tmps).run P w= .ok (.tuple #[tv f,tmps.getD u undef]) w:=by
 rw[results_cell_tmp h,o];have e:=nr w g t d f j _ q v rfl hi;simp only[asAddr,rn,kB,e]
theorem gN {P:km}{fn:Func}{p u:Tmp}{d:fX}(h:fn.results=#[.tmp u,.cell p d])(tmps:dl cw)(w:World)(g:bj)(t:fX)(f:dl cw)(j:bj×bj)(fs:dl Field)
  (o:tmps.getD p undef= tr (tf ⟨g,0,th⟩))(q:w.heap[g]?=tf (tA f t j))
  (v:P.underlying d=tf (.struct fs))(hi:(P.info? d).map (·.size)=tf f.size):
  (rr fn tmps).run P w= .ok (.tuple #[tmps.getD u undef,tv f]) w:=by
 have e:=nr w g t d f j _ q v rfl hi;simp only[rr,h];simp only[sy] at o;simp[ft,lz,o,asAddr,e]
theorem cO {P:km}{fn:Func}{p u:Tmp}{d f:fX}(h:fn.results=#[.cell p d,.cell u f])(tmps:dl cw)(w:World)(g q:bj)(t t2:fX)(j o:dl cw)(v x:bj×bj)(fs A:dl Field)
  (y:tmps.getD p undef= tr (tf ⟨g,0,th⟩))(E:w.heap[g]?=tf (tA j t v))(z:tmps.getD u undef= tr (tf ⟨q,0,th⟩))(G:w.heap[q]?=tf (tA o t2 x))
  (J:P.underlying d=tf (.struct fs))(hi:(P.info? d).map (·.size)=tf j.size)(K:P.underlying f=tf (.struct A))(R:(P.info? f).map (·.size)=tf o.size):
  (rr fn tmps).run P w= .ok (.tuple #[tv j,tv o]) w:=by
 have e:=nr w g t d j v _ E J rfl hi;have W:=nr w q t2 f o x _ G K rfl R;simp only[rr,h];simp only[sy] at y z;simp[ft,lz,y,z,asAddr,e,W]
theorem qa {N:bj}{w W:World}(h:aE N w W)(n:bj):aE N w (W.drewN n):=⟨h.os,h.tape,h.output,h.size,h.block⟩
theorem aW {W:World}{b:bj}{x y u v:cw}{t:fX}(h:W.heap[b]?=tf (tA #[x,y] t (0,0))):((W.setCell ⟨b,0,th⟩ u).setCell ⟨b,1,th⟩ v).heap[b]?=tf (tA #[u,v] t (0,0)):=by
 have d:=bk W b 0 _ _ u h;have e:=bk _ b 1 _ _ v d;simpa using e
theorem iX {W:World}{g:bj}{a b c d u0 u1 u2 u3:cw}{t:fX}(h:W.heap[g]?=tf (tA #[a,b,c,d] t (0,0))):
  ((((W.setCell ⟨g,0,th⟩ u0).setCell ⟨g,1,th⟩ u1).setCell ⟨g,2,th⟩ u2).setCell ⟨g,3,th⟩ u3).heap[g]?=tf (tA #[u0,u1,u2,u3] t (0,0)):=by
 have e:=bk W g 0 _ _ u0 h;have f:=bk _ g 1 _ _ u1 e;have j:=bk _ g 2 _ _ u2 f;have o:=bk _ g 3 _ _ u3 j;exact o
theorem rC {N B:bj}{w W:World}(h:aE N w W)(d:N<=B)(u0 u1 u2 u3:cw):aE N w ((((W.setCell ⟨B,0,th⟩ u0).setCell ⟨B,1,th⟩ u1).setCell ⟨B,2,th⟩ u2).setCell ⟨B,3,th⟩ u3):=
 (((h.setCell d _).setCell d _).setCell d _).setCell d _
theorem iY {W:World}{g:bj}{a b c d e u0 u1 u2 u3 u4:cw}{t:fX}(h:W.heap[g]?=tf (tA #[a,b,c,d,e] t (0,0))):
  (((((W.setCell ⟨g,0,th⟩ u0).setCell ⟨g,1,th⟩ u1).setCell ⟨g,2,th⟩ u2).setCell ⟨g,3,th⟩ u3).setCell ⟨g,4,th⟩ u4).heap[g]?=tf (tA #[u0,u1,u2,u3,u4] t (0,0)):=by
 have f:=bk W g 0 _ _ u0 h;have j:=bk _ g 1 _ _ u1 f;have o:=bk _ g 2 _ _ u2 j;have q:=bk _ g 3 _ _ u3 o;have u:=bk _ g 4 _ _ u4 q;exact u
theorem fD {N B:bj}{w W:World}(h:aE N w W)(d:N<=B)(u0 u1 u2 u3 u4:cw):aE N w (((((W.setCell ⟨B,0,th⟩ u0).setCell ⟨B,1,th⟩ u1).setCell ⟨B,2,th⟩ u2).setCell ⟨B,3,th⟩ u3).setCell ⟨B,4,th⟩ u4):=
 ((((h.setCell d _).setCell d _).setCell d _).setCell d _).setCell d _
theorem rowAt {W:World}{g:bj}{d:dl cw}{t:fX}(h:W.heap[g]?=tf (tA d t (0,0)))(k:bj){u:cw}(e:d[k]?=tf u):W.cell? ⟨g,k,th⟩=tf u/\W.frozen? ⟨g,k,th⟩=tj:=
 ⟨by rw[bt _ _ _ _ _ _ h];exact e,de _ _ _ _ _ h⟩
theorem ae {W:World}{g:bj}{o:Obj}(h:W.heap[g]?=tf o):g<W.heap.size:=(br.1 h).1
theorem eZ {W:World}{g:bj}{a b c d e:cw}{t:fX}(h:W.heap[g]?=tf (tA #[a,b,c,d,e] t (0,0))):
  (W.cell? ⟨g,0,th⟩=tf a/\W.cell? ⟨g,1,th⟩=tf b/\W.cell? ⟨g,2,th⟩=tf c/\W.cell? ⟨g,3,th⟩=tf d/\W.cell? ⟨g,4,th⟩=tf e)/\
  (W.frozen? ⟨g,0,th⟩=tj/\W.frozen? ⟨g,1,th⟩=tj/\W.frozen? ⟨g,2,th⟩=tj/\W.frozen? ⟨g,3,th⟩=tj/\W.frozen? ⟨g,4,th⟩=tj)/\g<W.heap.size:=by
 refine⟨⟨?_, ?_, ?_, ?_, ?_⟩,⟨?_, ?_, ?_, ?_, ?_⟩,(br.1 h).1⟩
 all_goals first|exact de _ _ _ _ _ h|(rw[bt _ _ _ _ _ _ h];rfl)
theorem l7 {W:World}{g:bj}{a b c d:cw}{t:fX}(h:W.heap[g]?=tf (tA #[a,b,c,d] t (0,0))):
  (W.cell? ⟨g,0,th⟩=tf a/\W.cell? ⟨g,1,th⟩=tf b/\W.cell? ⟨g,2,th⟩=tf c/\W.cell? ⟨g,3,th⟩=tf d)/\
  (W.frozen? ⟨g,0,th⟩=tj/\W.frozen? ⟨g,1,th⟩=tj/\W.frozen? ⟨g,2,th⟩=tj/\W.frozen? ⟨g,3,th⟩=tj)/\g<W.heap.size:=by
 refine⟨⟨?_, ?_, ?_, ?_⟩,⟨?_, ?_, ?_, ?_⟩,(br.1 h).1⟩
 all_goals first|exact de _ _ _ _ _ h|(rw[bt _ _ _ _ _ _ h];rfl)
theorem bZ {W:World}{g:bj}{a b:cw}{t:fX}(h:W.heap[g]?=tf (tA #[a,b] t (0,0))):
  (W.cell? ⟨g,0,th⟩=tf a/\W.cell? ⟨g,1,th⟩=tf b)/\(W.frozen? ⟨g,0,th⟩=tj/\W.frozen? ⟨g,1,th⟩=tj)/\g<W.heap.size:=by
 refine⟨⟨?_, ?_⟩,⟨?_, ?_⟩,(br.1 h).1⟩
 all_goals first|exact de _ _ _ _ _ h|(rw[bt _ _ _ _ _ _ h];rfl)
theorem Gv {w:World}{b:bj}{d:fX}{x y:cw}(h:w.heap[b]?=tf (tA #[x,y] d (0,0))):w.cell? ⟨b,0,th⟩=tf x/\w.cell? ⟨b,1,th⟩=tf y:=⟨(rowAt h 0 rfl).1,(rowAt h 1 rfl).1⟩
theorem Gb {w:World}{b:bj}{A:fX}{d e f g j o q t u v x y z:cw}(h:w.heap[b]?=tf (tA #[d,e,f,g,j,o,q,t,u,v,x,y,z] A (0,0))):w.cell? ⟨b,0,th⟩=tf d/\w.cell? ⟨b,1,th⟩=tf e/\w.cell? ⟨b,2,th⟩=tf f/\w.cell? ⟨b,3,th⟩=tf g/\w.cell? ⟨b,4,th⟩=tf j/\w.cell? ⟨b,5,th⟩=tf o/\w.cell? ⟨b,6,th⟩=tf q/\w.cell? ⟨b,7,th⟩=tf t/\w.cell? ⟨b,8,th⟩=tf u/\w.cell? ⟨b,9,th⟩=tf v/\w.cell? ⟨b,10,th⟩=tf x/\w.cell? ⟨b,11,th⟩=tf y/\w.cell? ⟨b,12,th⟩=tf z:=⟨(rowAt h 0 rfl).1,(rowAt h 1 rfl).1,(rowAt h 2 rfl).1,(rowAt h 3 rfl).1,(rowAt h 4 rfl).1,(rowAt h 5 rfl).1,(rowAt h 6 rfl).1,(rowAt h 7 rfl).1,(rowAt h 8 rfl).1,(rowAt h 9 rfl).1,(rowAt h 10 rfl).1,(rowAt h 11 rfl).1,(rowAt h 12 rfl).1⟩
theorem aa {g k:bj}{w w':World}(h:Ext (·=g) w w')(u:cw):Ext (·=g) w (w'.setCell ⟨g,k,th⟩ u):=h.setCell (a:=⟨g,k,th⟩) (.inl rfl) u
theorem fM {W:World}{g:bj}{q o j h f e d u0 u1 u2 u3 u4 u5 u6:cw}{t:fX}(u:W.heap[g]?=tf (tA #[q,o,j,h,f,e,d] t (0,0))):
  (((((((W.setCell ⟨g,0,th⟩ u0).setCell ⟨g,1,th⟩ u1).setCell ⟨g,2,th⟩ u2).setCell ⟨g,3,th⟩ u3).setCell ⟨g,4,th⟩ u4).setCell ⟨g,5,th⟩ u5).setCell ⟨g,6,th⟩ u6).heap[g]?=tf (tA #[u0,u1,u2,u3,u4,u5,u6] t (0,0)):=by
 have h0:(W.setCell ⟨g,0,th⟩ u0).heap[g]?=tf (tA #[u0,o,j,h,f,e,d] t (0,0)):=bk _ g 0 _ _ u0 u;have v:((W.setCell ⟨g,0,th⟩ u0).setCell ⟨g,1,th⟩ u1).heap[g]?=tf (tA #[u0,u1,j,h,f,e,d] t (0,0)):=bk _ g 1 _ _ u1 h0;have x:(((W.setCell ⟨g,0,th⟩ u0).setCell ⟨g,1,th⟩ u1).setCell ⟨g,2,th⟩ u2).heap[g]?=tf (tA #[u0,u1,u2,h,f,e,d] t (0,0)):=bk _ g 2 _ _ u2 v;have y:((((W.setCell ⟨g,0,th⟩ u0).setCell ⟨g,1,th⟩ u1).setCell ⟨g,2,th⟩ u2).setCell ⟨g,3,th⟩ u3).heap[g]?=tf (tA #[u0,u1,u2,u3,f,e,d] t (0,0)):=bk _ g 3 _ _ u3 x;have z:(((((W.setCell ⟨g,0,th⟩ u0).setCell ⟨g,1,th⟩ u1).setCell ⟨g,2,th⟩ u2).setCell ⟨g,3,th⟩ u3).setCell ⟨g,4,th⟩ u4).heap[g]?=tf (tA #[u0,u1,u2,u3,u4,e,d] t (0,0)):=bk _ g 4 _ _ u4 y;have A:((((((W.setCell ⟨g,0,th⟩ u0).setCell ⟨g,1,th⟩ u1).setCell ⟨g,2,th⟩ u2).setCell ⟨g,3,th⟩ u3).setCell ⟨g,4,th⟩ u4).setCell ⟨g,5,th⟩ u5).heap[g]?=tf (tA #[u0,u1,u2,u3,u4,u5,d] t (0,0)):=bk _ g 5 _ _ u5 z;have E:(((((((W.setCell ⟨g,0,th⟩ u0).setCell ⟨g,1,th⟩ u1).setCell ⟨g,2,th⟩ u2).setCell ⟨g,3,th⟩ u3).setCell ⟨g,4,th⟩ u4).setCell ⟨g,5,th⟩ u5).setCell ⟨g,6,th⟩ u6).heap[g]?=tf (tA #[u0,u1,u2,u3,u4,u5,u6] t (0,0)):=bk _ g 6 _ _ u6 A;exact E
theorem bV (W:World)(g:bj)(u0 u1 u2 u3 u4 u5 u6:cw):Ext (·=g) W (((((((W.setCell ⟨g,0,th⟩ u0).setCell ⟨g,1,th⟩ u1).setCell ⟨g,2,th⟩ u2).setCell ⟨g,3,th⟩ u3).setCell ⟨g,4,th⟩ u4).setCell ⟨g,5,th⟩ u5).setCell ⟨g,6,th⟩ u6):=by
 refine aa ?_ _;refine aa ?_ _;refine aa ?_ _;refine aa ?_ _;refine aa ?_ _;refine aa ?_ _;refine aa ?_ _;exact Ext.refl _ _
theorem ed {W:World}{g:bj}{e f h j o q u:cw}{t:fX}(d:W.heap[g]?=tf (tA #[e,f,h,j,o,q,u] t (0,0))):
  (W.cell? ⟨g,0,th⟩=tf e/\W.cell? ⟨g,1,th⟩=tf f/\W.cell? ⟨g,2,th⟩=tf h/\W.cell? ⟨g,3,th⟩=tf j/\W.cell? ⟨g,4,th⟩=tf o/\W.cell? ⟨g,5,th⟩=tf q/\W.cell? ⟨g,6,th⟩=tf u)/\(W.frozen? ⟨g,0,th⟩=tj/\W.frozen? ⟨g,1,th⟩=tj/\W.frozen? ⟨g,2,th⟩=tj/\W.frozen? ⟨g,3,th⟩=tj/\W.frozen? ⟨g,4,th⟩=tj/\W.frozen? ⟨g,5,th⟩=tj/\W.frozen? ⟨g,6,th⟩=tj)/\g<W.heap.size:=
 ⟨⟨(rowAt d 0 rfl).1,(rowAt d 1 rfl).1,(rowAt d 2 rfl).1,(rowAt d 3 rfl).1,(rowAt d 4 rfl).1,(rowAt d 5 rfl).1,(rowAt d 6 rfl).1⟩,⟨(rowAt d 0 rfl).2,(rowAt d 1 rfl).2,(rowAt d 2 rfl).2,(rowAt d 3 rfl).2,(rowAt d 4 rfl).2,(rowAt d 5 rfl).2,(rowAt d 6 rfl).2⟩,ae d⟩
theorem kR {W:World}{g:bj}{v u q o j h f e d u0 u1 u2 u3 u4 u5 u6 u7 u8:cw}{t:fX}(x:W.heap[g]?=tf (tA #[v,u,q,o,j,h,f,e,d] t (0,0))):
  (((((((((W.setCell ⟨g,0,th⟩ u0).setCell ⟨g,1,th⟩ u1).setCell ⟨g,2,th⟩ u2).setCell ⟨g,3,th⟩ u3).setCell ⟨g,4,th⟩ u4).setCell ⟨g,5,th⟩ u5).setCell ⟨g,6,th⟩ u6).setCell ⟨g,7,th⟩ u7).setCell ⟨g,8,th⟩ u8).heap[g]?=tf (tA #[u0,u1,u2,u3,u4,u5,u6,u7,u8] t (0,0)):=by
 have h0:(W.setCell ⟨g,0,th⟩ u0).heap[g]?=tf (tA #[u0,u,q,o,j,h,f,e,d] t (0,0)):=bk _ g 0 _ _ u0 x;have y:((W.setCell ⟨g,0,th⟩ u0).setCell ⟨g,1,th⟩ u1).heap[g]?=tf (tA #[u0,u1,q,o,j,h,f,e,d] t (0,0)):=bk _ g 1 _ _ u1 h0;have z:(((W.setCell ⟨g,0,th⟩ u0).setCell ⟨g,1,th⟩ u1).setCell ⟨g,2,th⟩ u2).heap[g]?=tf (tA #[u0,u1,u2,o,j,h,f,e,d] t (0,0)):=bk _ g 2 _ _ u2 y;have A:((((W.setCell ⟨g,0,th⟩ u0).setCell ⟨g,1,th⟩ u1).setCell ⟨g,2,th⟩ u2).setCell ⟨g,3,th⟩ u3).heap[g]?=tf (tA #[u0,u1,u2,u3,j,h,f,e,d] t (0,0)):=bk _ g 3 _ _ u3 z;have E:(((((W.setCell ⟨g,0,th⟩ u0).setCell ⟨g,1,th⟩ u1).setCell ⟨g,2,th⟩ u2).setCell ⟨g,3,th⟩ u3).setCell ⟨g,4,th⟩ u4).heap[g]?=tf (tA #[u0,u1,u2,u3,u4,h,f,e,d] t (0,0)):=bk _ g 4 _ _ u4 A;have G:((((((W.setCell ⟨g,0,th⟩ u0).setCell ⟨g,1,th⟩ u1).setCell ⟨g,2,th⟩ u2).setCell ⟨g,3,th⟩ u3).setCell ⟨g,4,th⟩ u4).setCell ⟨g,5,th⟩ u5).heap[g]?=tf (tA #[u0,u1,u2,u3,u4,u5,f,e,d] t (0,0)):=bk _ g 5 _ _ u5 E;have J:(((((((W.setCell ⟨g,0,th⟩ u0).setCell ⟨g,1,th⟩ u1).setCell ⟨g,2,th⟩ u2).setCell ⟨g,3,th⟩ u3).setCell ⟨g,4,th⟩ u4).setCell ⟨g,5,th⟩ u5).setCell ⟨g,6,th⟩ u6).heap[g]?=tf (tA #[u0,u1,u2,u3,u4,u5,u6,e,d] t (0,0)):=bk _ g 6 _ _ u6 G;have K:((((((((W.setCell ⟨g,0,th⟩ u0).setCell ⟨g,1,th⟩ u1).setCell ⟨g,2,th⟩ u2).setCell ⟨g,3,th⟩ u3).setCell ⟨g,4,th⟩ u4).setCell ⟨g,5,th⟩ u5).setCell ⟨g,6,th⟩ u6).setCell ⟨g,7,th⟩ u7).heap[g]?=tf (tA #[u0,u1,u2,u3,u4,u5,u6,u7,d] t (0,0)):=bk _ g 7 _ _ u7 J;have R:(((((((((W.setCell ⟨g,0,th⟩ u0).setCell ⟨g,1,th⟩ u1).setCell ⟨g,2,th⟩ u2).setCell ⟨g,3,th⟩ u3).setCell ⟨g,4,th⟩ u4).setCell ⟨g,5,th⟩ u5).setCell ⟨g,6,th⟩ u6).setCell ⟨g,7,th⟩ u7).setCell ⟨g,8,th⟩ u8).heap[g]?=tf (tA #[u0,u1,u2,u3,u4,u5,u6,u7,u8] t (0,0)):=bk _ g 8 _ _ u8 K;exact R
theorem kS (W:World)(g:bj)(u0 u1 u2 u3 u4 u5 u6 u7 u8:cw):Ext (·=g) W (((((((((W.setCell ⟨g,0,th⟩ u0).setCell ⟨g,1,th⟩ u1).setCell ⟨g,2,th⟩ u2).setCell ⟨g,3,th⟩ u3).setCell ⟨g,4,th⟩ u4).setCell ⟨g,5,th⟩ u5).setCell ⟨g,6,th⟩ u6).setCell ⟨g,7,th⟩ u7).setCell ⟨g,8,th⟩ u8):=by
 refine aa ?_ _;refine aa ?_ _;refine aa ?_ _;refine aa ?_ _;refine aa ?_ _;refine aa ?_ _;refine aa ?_ _;refine aa ?_ _;refine aa ?_ _;exact Ext.refl _ _
theorem fe {W:World}{g:bj}{e f h j o q u v x:cw}{t:fX}(d:W.heap[g]?=tf (tA #[e,f,h,j,o,q,u,v,x] t (0,0))):
  (W.cell? ⟨g,0,th⟩=tf e/\W.cell? ⟨g,1,th⟩=tf f/\W.cell? ⟨g,2,th⟩=tf h/\W.cell? ⟨g,3,th⟩=tf j/\W.cell? ⟨g,4,th⟩=tf o/\W.cell? ⟨g,5,th⟩=tf q/\W.cell? ⟨g,6,th⟩=tf u/\W.cell? ⟨g,7,th⟩=tf v/\W.cell? ⟨g,8,th⟩=tf x)/\(W.frozen? ⟨g,0,th⟩=tj/\W.frozen? ⟨g,1,th⟩=tj/\W.frozen? ⟨g,2,th⟩=tj/\W.frozen? ⟨g,3,th⟩=tj/\W.frozen? ⟨g,4,th⟩=tj/\W.frozen? ⟨g,5,th⟩=tj/\W.frozen? ⟨g,6,th⟩=tj/\W.frozen? ⟨g,7,th⟩=tj/\W.frozen? ⟨g,8,th⟩=tj)/\g<W.heap.size:=
 ⟨⟨(rowAt d 0 rfl).1,(rowAt d 1 rfl).1,(rowAt d 2 rfl).1,(rowAt d 3 rfl).1,(rowAt d 4 rfl).1,(rowAt d 5 rfl).1,(rowAt d 6 rfl).1,(rowAt d 7 rfl).1,(rowAt d 8 rfl).1⟩,⟨(rowAt d 0 rfl).2,(rowAt d 1 rfl).2,(rowAt d 2 rfl).2,(rowAt d 3 rfl).2,(rowAt d 4 rfl).2,(rowAt d 5 rfl).2,(rowAt d 6 rfl).2,(rowAt d 7 rfl).2,(rowAt d 8 rfl).2⟩,ae d⟩
section
variable {P:km}{ops:dl kj}{Q:Exit->Act->World->Prop}{md:ii}{S:World->Prop}{k:bj}
theorem kT {i j:bj}{e f:kj}{fuel:bj}{listed:dl ml}{a:Act}{w:World}(t:em md ops listed=[i,j])(u:i≠k)(v:j≠k)(x:ops[i]?=tf e)(y:ops[j]?=tf f)
  (hi:∀d:Act->World->Prop,(∀a w,S w->cZ P md ops Q S k fuel (listed.setIfInBounds i ti) a w->d a w)->if gd e (oc ops a.tmps)=ti then mp P e a w d Q else d (a.put e.dst undef) w)
  (A:∀d:Act->World->Prop,(∀a w,S w->cZ P md ops Q S k fuel (listed.setIfInBounds j ti) a w->d a w)->if gd f (oc ops a.tmps)=ti then mp P f a w d Q else d (a.put f.dst undef) w):
  cZ P md ops Q S k (fuel+1) listed a w:=by
 refine⟨λh0=>(by rw[t] at h0;cases h0),λz g=> ?_⟩;rw[t] at g;rcases fW.1 g with rfl|g
 ·simp only[bw u]
  exact wpOp_step x (λd h=>hi d (λa w o q=>h a w ⟨o,q⟩))
 ·obtain rfl:=cP.1 g
  simp only[bw v];exact wpOp_step y (λd h=>A d (λa w o q=>h a w ⟨o,q⟩))
end
structure BW (W:World) where
 w:World
 h:aE W.heap.size W w
instance {W:World}:Inhabited (BW W):=⟨⟨W,aq _ _⟩⟩
theorem mP {P:km}{id:bj}{Q:Exit->Act->World->Prop}{a:Act}{W:World}{l:bp kj}(d:P.follows .mixedOrders=ti)(e:rx .any l.toArray=ti)
  (h:qS P l.toArray (λw'=>∃p:BW W,w'=p.w) (λf=>∀w',(∃p:BW W,w'=p.w)->Q .normal f w') l a):(Code.region id l.toArray ti).wp P Q a W:=
 wp_region_quiet (C:=λw'=>∃p:BW W,w'=p.w) d e ⟨⟨W.drew,(aq _ _).drew⟩,rfl⟩ (by simpa using h)
theorem zQ {P:km}{id:bj}{Q:Exit->Act->World->Prop}{a:Act}{W:World}{l:bp kj}
  (h:qS P l.toArray (λw'=>∃p:BW W,w'=p.w) (λd=>∀w',(∃p:BW W,w'=p.w)->Q .normal d w') l a)
  (e:P.follows .mixedOrders=ti:=by kernel_rfl)(f:rx .any l.toArray=ti:=by kernel_rfl):(Code.region id l.toArray ti).wp P Q a W:=
 mP e f h
theorem bg {P:km}{f:FuncId}{args:dl cw}{W:World}{p:BW W}{v:cw}(h:fj P f args p.w λe w'=>e= tB v/\aE p.w.heap.size p.w w'):
  fj P f args p.w λe w''=>e= tB v/\∃q:BW W,w''=q.w:=
 h.mono λ_ w' ⟨d,hb⟩=>⟨d,⟨w',p.h.trans (hb.mono p.h.size)⟩,rfl⟩
theorem jr {P:km}{f:FuncId}{args:dl cw}{W:World}{p:BW W}{v:cw}(h:fj P f args p.w λe w'=>e= tB v/\p.w=w'):
  fj P f args p.w λe w''=>e= tB v/\∃q:BW W,w''=q.w:=
 h.mono λ_ _ ⟨d,hb⟩=>⟨d,p,hb.symm⟩
end Go.Proofs.YtjomgckjhcfbgaaGreat
