/- Walks. -/
import Derived.Test.YtjomgckjhcfbgaaGreatY16
set_option maxRecDepth 100000
set_option maxHeartbeats 64000000
set_option linter.all false
namespace Go.Proofs.YtjomgckjhcfbgaaGreat
open Go.RowKit
open Go.Proofs.Tryz renaming prog→ac,underlying164→cX,underlying62→pL,underlying145→rb
open _root_.List renaming getElem?_eq_getElem→am,mem_of_getElem?→cf,length_append→cw,mem_singleton→cH,mem_append→cT,take_length→de,mem_map→dy,length_map→ei,range→ej,mem_cons→fy,mem_range→jn,length_filter_le→ki,append_nil→mj,length_range→ml,take_succ_cons→qk
open Go.RowKit.Below renaming refl→aq,heap_alloc→cn,block→cq,mono→pw
open Go.RowKit renaming Below→bh,Hid→cm
open Go renaming heap_setCell_same→bk,cell_of_row→cc,Value→cd,maxLen→dT,Calls→gd,info_parts→gA,Oper→ke,yielded→kj,Program→km,ready_mono→nl
open _root_ renaming List→bm,Int→bp,Nat→bx,if_neg→cE,if_pos→cR,Array→da,Option→eA,beq_false_of_ne→gb,False→mb,Bool→nj,if_true→rh
open _root_.Nat renaming le_refl→ce,zero_le→cN,zero_add→cV,le_trans→cY
open Go.Value renaming oneCell'→cj,slice→co,string→tM,slice→tP,pointer→tR,bool→tU,agg→tW,int→Z
open Go.Addr renaming add_lit→dc
open Go.Region renaming ready→dd,wanted→eC,noSelect→fi,binds→fz,Mode→gO,free→kB,noSelect_spec→lk,free_spec→mB
open _root_.Classical renaming byContradiction→er
open Go.IntKind renaming wrap_i64→jx,i64→me,i64→U
open _root_.Array renaming getElem?_setIfInBounds_ne→jz,replicate→mL,setIfInBounds_comm→oX
open Go.Oper renaming wp→lR
open Go.Act renaming put_comm→nB
open Go.Code renaming region→ti
open _root_.Option renaming some→tB,none→tD
open _root_.Bool renaming true→tE,false→tG
open Go.Obj renaming cells→ua
open Go.Ending renaming returned→ub
open Tryz
def Gw (w w':World):Prop:=bh w.heap.size w w'
theorem Gw.refl (w:World):Gw w w:=aq _ _
theorem Gw.trans {w w1 w2:World}(h:Gw w w1)(d:Gw w1 w2):Gw w w2:=Below.trans h (d.mono h.size)
section
variable {P:km}{ops:da ke}{Q:Exit->Act->World->Prop}{md:gO}{S:World->Prop}
def IU (P:km)(v:cd)(w:World):Result Next->Prop
 | .ok (.value u) w'=>u=v/\Gw w w'
 | .ok (.enter f args) w'=>gd P f args w' λe w''=>e= ub v/\Gw w w''
 |_=>mb
def eB (P:km)(ops:da ke)(S:World->Prop)(o:ke)(v:cd)(a:Act):Prop:=
 eC o (kj ops a.tmps)=tE/\∀w,S w->IU P v w ((execOp a.eval o).run P w)
theorem eB.of_same {o:ke}{v:cd}{a d:Act}(f:eB P ops S o v a)(h:execOp d.eval o=execOp a.eval o)
  (q:eC o (kj ops d.tmps)=eC o (kj ops a.tmps)):eB P ops S o v d:=by
 unfold eB at*;rw[h,q];exact f
theorem eB.wpOp {i:bx}{o:ke}{v:cd}{a:Act}(A:ops[i]?=tB o)(q:eB P ops S o v a)
  {K:Act->World->Prop}{w:World}(D:S w)(h:∀w',Gw w w'->K (a.put o.dst v) w'):wpOp P ops Q i K a w:=by
 unfold Go.wpOp;simp only[A,q.1,rh,lR];refine .inl ?_;have:=q.2 w D;generalize (execOp a.eval o).run P w=r at*;cases r with
 |ok n w'=>
  cases n<;>simp only[IU] at this
  case value u=>obtain⟨rfl,d⟩:=this;exact h _ d
  case enter f args=>
   refine Calls.mono this λe w'' G=> ?_;obtain⟨rfl,d⟩:=G;exact h _ d
 |halt x w'=>exact this.elim
theorem BS {j:bx}{q A:ke}{v:cd}(hj:ops[j]?=tB A)(ue:q.apart ops A=tE)
  (ur:∀cs b,q.op≠ .select cs b)(uc:∀cs b,A.op≠ .select cs b)
  (hQ:∀c a w,Q (.panic c) (a.put q.dst v) w->Q (.panic c) a w){K:Act->World->Prop}{a:Act}{w:World}
  (D:eB P ops S q v a)(h:wpOp P ops Q j K (a.put q.dst v) w):
  wpOp P ops Q j (λa' w'=>eB P ops S q v a'/\K (a'.put q.dst v) w') a w:=by
 obtain⟨h1,G,h3⟩:=Oper.apart_spec ue;have J:∀(a:Act),eB P ops S q v a->∀u,eB P ops S q v (a.put A.dst u):=λa D u=>
  D.of_same (execOp_put q ur a A.dst u h3) (wanted_put q a A.dst u h3)
 have uv:∀d,eB P ops S q v {a with defers:=d::a.defers}:=λd=>D.of_same rfl rfl;unfold wpOp at*;simp only[hj] at*;rw[wanted_put A a q.dst v h1] at h
 split
 ·rename_i hw
  simp only[hw,rh] at h;rcases h with h|⟨ud,ux⟩
  case inr=>exact .inr ⟨by unfold Oper.asks at*;rw[execOp_put A uc a q.dst v h1] at ud;exact ud,ux⟩
  refine .inl ?_;unfold lR at*;rw[execOp_put A uc a q.dst v h1] at h;generalize (execOp a.eval A).run P w=r at*;cases r with
  |ok n w'=>
   cases n<;>simp only[Oper.upon] at h⊢
   case value u=>exact⟨J a D u,by rw[<-nB a v u G];exact h⟩
   case skip=>exact⟨J a D _,by rw[<-nB a v undef G];exact h⟩
   case defer d=>
    refine⟨J _ (uv d) _, ?_⟩;rw[<-nB _ v undef G,<-Act.put_defers];exact h
   case enter f args=>
    refine Calls.mono h λe w'' he=> ?_;cases e with
    |returned u=>exact⟨J a D u,by rw[<-nB a v u G];exact he⟩
    |panicked c=>exact hQ _ _ _ he
    |outgrown=>exact he
   case row row args=>exact Rows.mono h λu w'' he=>⟨J a D u,by rw[<-nB a v u G];exact he⟩
  |halt x w'=>
   cases x<;>simp only[Oper.upon] at h⊢
   case panic u=>exact hQ _ _ _ h
 ·rename_i hw
  simp only[hw] at h;exact⟨J a D _,by rw[<-nB a v undef G];exact h⟩
def dW (P:km)(md:gO)(ops:da ke)(Q:Exit->Act->World->Prop)(S:World->Prop):bx->da nj->Act->World->Prop
 |0,listed,a,w=>dd md ops listed=[]/\Q .normal a w
 |fuel+1,listed,a,w=>
  (dd md ops listed=[]->Q .normal a w)/\
  ∀i∈dd md ops listed,wpOp P ops Q i (λd w'=>S w'/\∀w'',Gw w' w''->dW P md ops Q S fuel (listed.setIfInBounds i tE) d w'') a w
theorem tO:∀(fuel:bx)(listed:da nj)(a:Act)(w:World),dW P md ops Q S fuel listed a w->wpAny P md ops Q fuel listed a w
 |0,_,_,_,h=>h
 |fuel+1,_,_,_,h=>⟨h.1,λi d=>wpOp_mono (λf w' q=>tO fuel _ f w' (q.2 w' (Gw.refl _))) (h.2 i d)⟩
theorem o7 (ud:∀w w',S w->Gw w w'->S w'){i:bx}{q:ke}{v:cd}(hi:ops[i]?=tB q)(ur:∀(j:bx)(o:ke) D b,ops[j]?=tB o->o.op≠ .select D b)
  (hQ:∀c a w,Q (.panic c) (a.put q.dst v) w->Q (.panic c) a w):
  ∀(fuel:bx)(listed:da nj)(a:Act)(w:World),
   (∀j u,ops[j]?=tB u->j≠i->listed.getD j tE=tG->(∀e∈u.after,fz md e=tE->e.on≠i)->q.apart ops u=tE)->
   i∈dd md ops listed->listed[i]?=tB tG->eB P ops S q v a->S w->
   (∀w',Gw w w'->dW P md ops Q S fuel (listed.setIfInBounds i tE) (a.put q.dst v) w')->dW P md ops Q S (fuel+1) listed a w:=by
 intro fuel
 induction fuel with
 |zero=>
  intro listed a w _ A _ hy G H;refine⟨λh=>(by rw[h] at A;cases A),λj J=> ?_⟩
  by_cases d:j=i
  ·subst d;exact hy.wpOp hi G λw' f=>⟨ud _ _ G f,λw'' ue=>H w'' (f.trans ue)⟩
  ·have:=nl J d
   rw[(H w (Gw.refl w)).1] at this;cases this
 |succ fuel ih=>
  intro listed a w uv A ux hy G H;refine⟨λh=>(by rw[h] at A;cases A),λj J=> ?_⟩
  by_cases d:j=i
  ·subst d;exact hy.wpOp hi G λw' f=>⟨ud _ _ G f,λw'' ue=>H w'' (f.trans ue)⟩
  ·have h1:=(H w (Gw.refl w)).2 j (nl J d)
   obtain⟨va,u,uc,vq⟩:=mem_ready.1 J;have vf:∀e∈u.after,fz md e=tE->e.on≠i:=λe he hb vh=>iW ux uc he hb vh J;have h2:=BS uc (uv j u uc d va vf) (λD b=>ur i q D b hi) (λD b=>ur j u D b uc) hQ hy h1;have vi:∀k ok,ops[k]?=tB ok->k≠i->(listed.setIfInBounds j tE).getD k tE=tG->
     (∀e∈ok.after,fz md e=tE->e.on≠i)->q.apart ops ok=tE:=λk ok hk vj vc vm=>by
    refine uv k ok hk vj ?_ vm
    by_cases vd:j=k
    ·subst vd;exact va
    ·rw[getD_set_ne tE vd] at vc;exact vc
   refine wpOp_mono (λa' w' h3=>⟨h3.2.1,λw'' f=>ih (listed.setIfInBounds j tE) a' w'' vi (nl A (Ne.symm d)) (by rw[jz d];exact ux) h3.1 (ud _ _ h3.2.1 f) λw3 vp=> ?_⟩) h2;rw[oX _ _ d];exact h3.2.2 w3 (f.trans vp)
theorem uT {C:World->Prop}(i:bx){d:ke}{v:cd}{fuel:bx}{listed:da nj}{a:Act}{w:World}(q:ops[i]?=tB d)(u:∀w w',S w->Gw w w'->S w')
  (hC:∀w,S w->C w)(f:S w)
  (h:∀w',Gw w w'->S w'->dW P md ops Q S fuel (listed.setIfInBounds i tE) (a.put d.dst v) w')
  (G:∀w,C w->(execOp a.eval d).run P w= .ok (.value v) w:=by intro w A;go_simp;try rfl)
  (A:eC d (kj ops a.tmps)=tE:=by rfl)
  (J:fi ops=tE:=by kernel_rfl)(hf:kB md ops listed i=tE:=by kernel_rfl)(hr:(dd md ops listed).contains i=tE:=by kernel_rfl)(hl:listed[i]?=tB tG:=by kernel_rfl)
  (hQ:∀c a w,Q (.panic c) (a.put d.dst v) w->Q (.panic c) a w:=by exact λ_ _ _ h=>h):dW P md ops Q S (fuel+1) listed a w:=
 o7 u q (lk J) hQ fuel listed a w (mB q hf) (by simpa using hr) hl ⟨A,λw f=>by rw[G w (hC w f)];exact⟨rfl,Gw.refl w⟩⟩ f λw' D=>h w' D (u _ _ f D)
theorem uC {f:FuncId}{args:da cd}(v:cd)(i:bx){d:ke}{fuel:bx}{listed:da nj}{a:Act}{w:World}(u:ops[i]?=tB d)(A:∀w w',S w->Gw w w'->S w')(q:S w)
  (G:∀w,S w->gd P f args w λe w'=>e= ub v/\Gw w w')
  (h:∀w',Gw w w'->S w'->dW P md ops Q S fuel (listed.setIfInBounds i tE) (a.put d.dst v) w')
  (J:∀w,(execOp a.eval d).run P w= .ok (.enter f args) w:=by intro w;go_simp;try rfl)
  (hw:eC d (kj ops a.tmps)=tE:=by rfl)
  (hs:fi ops=tE:=by kernel_rfl)(hf:kB md ops listed i=tE:=by kernel_rfl)(hr:(dd md ops listed).contains i=tE:=by kernel_rfl)(hl:listed[i]?=tB tG:=by kernel_rfl)
  (hQ:∀c a w,Q (.panic c) (a.put d.dst v) w->Q (.panic c) a w:=by exact λ_ _ _ h=>h):dW P md ops Q S (fuel+1) listed a w:=
 o7 A u (lk hs) hQ fuel listed a w (mB u hf) (by simpa using hr) hl ⟨hw,λw q=>by rw[J w];exact G w q⟩ q λw' D=>h w' D (A _ _ q D)
theorem uJ {fuel:bx}{listed:da nj}{a:Act}{w:World}(i:bx){o:ke}(u:ops[i]?=tB o)
  (h:∀d:Act->World->Prop,(∀a w,S w->(∀w',Gw w w'->S w'->dW P md ops Q S fuel (listed.setIfInBounds i tE) a w')->d a w)->lR P o a w d Q)(v:∀w w',S w->Gw w w'->S w')
  (A:eC o (kj ops a.tmps)=tE:=by rfl):wpOp P ops Q i (λD w'=>S w'/\∀w'',Gw w' w''->dW P md ops Q S fuel (listed.setIfInBounds i tE) D w'') a w:=
 wpOp_step u (λd G=>by rw[cR A];exact h d (λa w f J=>G a w ⟨f,λw'' q=>J w'' q (v _ _ f q)⟩))
theorem uO (i:bx){o:ke}{fuel:bx}{listed:da nj}{a:Act}{w:World}(u:ops[i]?=tB o)(v:∀w w',S w->Gw w w'->S w')
  (h:∀d:Act->World->Prop,(∀a w,S w->(∀w',Gw w w'->S w'->dW P md ops Q S fuel (listed.setIfInBounds i tE) a w')->d a w)->lR P o a w d Q)
  (A:eC o (kj ops a.tmps)=tE:=by rfl)(f:dd md ops listed=[i]:=by kernel_rfl):
  dW P md ops Q S (fuel+1) listed a w:=by
 refine⟨λh0=>(by rw[f] at h0;cases h0),λj q=> ?_⟩;rw[f] at q;obtain rfl:=cH.1 q;exact uJ j u h v A
theorem GZ (i j:bx){fuel:bx}{listed:da nj}{a:Act}{w:World}
  (q:wpOp P ops Q i (λf w'=>S w'/\∀w'',Gw w' w''->dW P md ops Q S fuel (listed.setIfInBounds i tE) f w'') a w)
  (u:wpOp P ops Q j (λf w'=>S w'/\∀w'',Gw w' w''->dW P md ops Q S fuel (listed.setIfInBounds j tE) f w'') a w)
  (h:dd md ops listed=[i,j]:=by kernel_rfl):
  dW P md ops Q S (fuel+1) listed a w:=by
 refine⟨λh0=>(by rw[h] at h0;cases h0),λk d=> ?_⟩;rw[h] at d;rcases fy.1 d with rfl|d
 ·exact q
 ·obtain rfl:=cH.1 d
  exact u
theorem G5 (i j l:bx){fuel:bx}{listed:da nj}{a:Act}{w:World}
  (q:wpOp P ops Q i (λf w'=>S w'/\∀w'',Gw w' w''->dW P md ops Q S fuel (listed.setIfInBounds i tE) f w'') a w)
  (u:wpOp P ops Q j (λf w'=>S w'/\∀w'',Gw w' w''->dW P md ops Q S fuel (listed.setIfInBounds j tE) f w'') a w)
  (v:wpOp P ops Q l (λf w'=>S w'/\∀w'',Gw w' w''->dW P md ops Q S fuel (listed.setIfInBounds l tE) f w'') a w)
  (h:dd md ops listed=[i,j,l]:=by kernel_rfl):
  dW P md ops Q S (fuel+1) listed a w:=by
 refine⟨λh0=>(by rw[h] at h0;cases h0),λk d=> ?_⟩;rw[h] at d;rcases fy.1 d with rfl|d
 ·exact q
 rcases fy.1 d with rfl|d
 ·exact u
 ·obtain rfl:=cH.1 d
  exact v
theorem Ao {id:bx}{a:Act}{w:World}(S:World->Prop)(d:P.follows .mixedOrders=tE)
  (h:dW P .any ops Q S ops.size (mL ops.size tG) a w.drew):(ti id ops tE).wp P Q a w:=
 wp_region_any d (tO _ _ _ _ h)
end
section
open Go.RowKit Go.Maps
theorem bO {V:World}{D:bx}{x y z:cd}(h:V.heap[D]?=tB (ua #[x,y,z] 164 (0,0)))(a b c:bp):
  (((V.setCell ⟨D,0,tD⟩ (Z U a)).setCell ⟨D,1,tD⟩ (Z U b)).setCell ⟨D,2,tD⟩ (Z U c)).heap[D]?=tB (ua #[Z U a,Z U b,Z U c] 164 (0,0))/\Ext (·=D) V (((V.setCell ⟨D,0,tD⟩ (Z U a)).setCell ⟨D,1,tD⟩ (Z U b)).setCell ⟨D,2,tD⟩ (Z U c)):=by
 have d:=bk V D 0 _ _ (Z U a) h;have f:=bk _ D 1 _ _ (Z U b) d;have u:=bk _ D 2 _ _ (Z U c) f;exact⟨u,((Ext.set1 V D 0 _).trans (Ext.set1 _ D 1 _) (λq e=> .inl e)).trans (Ext.set1 _ D 2 _) (λq e=> .inl e)⟩
theorem Ib (p:PS)(f k:bp)(i:Ins)(h:i.op=12):Gs f k i p (({p with St:=p.St++[(f,k)]}:PS).add (av f i.d) p.St.length):=by
 unfold Gs PS.start iU mi iK jo;simp only[h];simp[qf]
theorem EQ (p:PS)(f k:bp)(i:Ins)(t:Th)(d:¬i.op=12)(h:¬i.op=9)(q:¬i.op=15)(u:¬i.op=18)(v:jo f i=[(av f i.a,t)]):Gs f k i p {p with GL:=p.GL++[(av f i.a,t)]}:=by
 unfold Gs PS.start iU mi iK;rw[v];simp only[cE d,cE h,cE q,cE u];simp[qf]
theorem Ap (p:PS)(f k:bp)(i:Ins)(d:¬i.op=12)(h:¬i.op=10)(q:¬i.op=11):p.start f k i=p:=by
 unfold PS.start mi iK jo;simp only[cE d,cE h,cE q,mj,List.foldl_nil]
theorem yz {p p':PS}{f k:bp}{i:Ins}(d:¬i.op=12)(q:¬i.op=10)(u:¬i.op=11)(h:qf (iU f i) p p'):Gs f k i p p':=by
 unfold Gs;rw[Ap p f k i d q u];exact h
theorem F9:∀(d:bm (Nd×bx))(b:Nd),d.Nodup->(∀q∈d,q.1=b/\q.2<=400)->d.length<=401:=λd b u f=>by
 have:=ja d ((ej 401).map λx=>(b,x)) u λq h=>dy.2 ⟨q.2,jn.2 (by have:=(f q h).2;omega),by rw[<-(f q h).1]⟩;rw[ei,ml] at this;exact this
structure Iy (j:bx)(p p':PS):Prop where
 f:p'.FL.length<=p.FL.length+j
 h:p'.H.length<=p.H.length+401*j
 t:p'.td.length<=p.td.length+401*j
 xs:∀n x,(n,x)∈p'.H->x<=400
theorem Iy.flow {j:bx}{p p1 p':PS}{a b:Nd}(h:Iy j p p1)(J:ED a b p1 p'):Iy (j+1) p p':=by
 rcases J with⟨_,rfl⟩|⟨_,l,A,rfl⟩
 ·exact⟨by have:=h.f;omega,by have:=h.h;omega,by have:=h.t;omega,h.xs⟩
 ·obtain⟨_,e2,_,⟨d,D,h2,h3,v⟩,_⟩:=kC (n:=b) l ({p1 with FL:=p1.FL++[(a,b)]}:PS)
  have hd:=F9 d b h3 λq G=>⟨(v q G).2.1,h.xs _ _ ((A _).1 (v q G).2.2)⟩
  refine⟨?_, ?_, ?_,λn x u=> ?_⟩
  ·rw[e2]
   show(p1.FL++[(a,b)]).length<=_
   have:=h.f;simp;omega
  ·rw[D,cw]
   have:({p1 with FL:=p1.FL++[(a,b)]}:PS).H.length<=_:=h.h;omega
  ·rw[h2,cw]
   have:({p1 with FL:=p1.FL++[(a,b)]}:PS).td.length<=_:=h.t;omega
  ·rw[D] at u
   rcases cT.1 u with u|u
   ·exact h.xs n x u
   ·have:=v _ u
    exact h.xs a x ((A _).1 this.2.2)
theorem BU {f g:bp}{l:bm bp}{j:bx}{x:bp}(h:l[j]?=tB x):gu f g 0 (l.take (j+1))=gu f g 0 (l.take j)++[(av f x,av g (j:bp))]:=by
 have d:∀(l:bm bp)(n j:bx),l[j]?=tB x->gu f g n (l.take (j+1))=gu f g n (l.take j)++[(av f x,av g ((n+j:bx):bp))]:=by
  intro l
  induction l with
  |nil=>intro n j h;simp at h
  |cons a r ih=>
   intro n j h;cases j with
   |zero=>
    obtain rfl:a=x:=by simpa using h
    simp[gu]
   |succ j=>
    rw[qk,qk];unfold gu;rw[ih (n+1) j (by simpa using h),show n+1+j=n+(j+1) by omega];rfl
 have:=d l 0 j h;rw[cV] at this;exact this
structure IX (W1:World)(D D9 D10 D11:bx)(ic:da cd)(n9 n10 n11:Nd)(w:World):Prop where
 below:bh W1.heap.size W1 w
 ins:w.heap[D]?=tB (ua ic 42 (0,0))
 r9:w.heap[D9]?=tB (ua #[Z U n9.1,Z U n9.2.1,Z U n9.2.2] 164 (0,0))
 r10:w.heap[D10]?=tB (ua #[Z U n10.1,Z U n10.2.1,Z U n10.2.2] 164 (0,0))
 r11:w.heap[D11]?=tB (ua #[Z U n11.1,Z U n11.2.1,Z U n11.2.2] 164 (0,0))
 l9:W1.heap.size<=D9
 l10:W1.heap.size<=D10
 l11:W1.heap.size<=D11
section
variable {T HM FM GM:bx}{m:Mo}{B:bx}{tg tg1:bx->PT}{s s1:yx}{p p1 p':PS}{w w1 w':World}
theorem vN (w w0:World)(h:Pm T HM FM GM m B tg s p w)(hB:w0.heap.size<=B)(G1:bh w0.heap.size w0 w)(f k:bp)(i:Ins)(ga:eA Addr)(gc:bx)(G2:i.argsV= tP ga i.args.length gc)(Jb:∃ao n cap,i.modeV= tP ao n cap)(E4:aA w0 ga i.args)
  (hX:Cz (f,k,i))(G3:∀n x,(n,x)∈p.H->x<=400)(lS:p.St.length<=400)(lF:p.FL.length<=200000)(lG:p.GL.length<=400)(lH:p.H.length<=100000000)(lT:p.td.length<=100000000):
  gd ac 71 #[tR (tB ⟨T,0,tD⟩),Z U f,Z U k,tW i.cells] w λe w'=>e= ub (.tuple #[])/\∃p',Gs f k i p p'/\bF Z0 T HM FM GM m B tg p' w w':=by
 obtain⟨mo,mn,mc,G4⟩:=Jb;obtain⟨op,d,a,b,ff,nn,Hb,argsV,modeV,Hc,Hh,ln,cl,args⟩:=i;simp only at G2 G4 E4;subst G2 G4;simp only[Ins.cells];obtain⟨ic,Bm⟩:=zE (#[Z U op,Z U d,Z U a,Z U b,Z U ff,Z U nn,tM Hb,tP ga args.length gc,tP mo mn mc,Z U Hc,Z U Hh,Z U ln,Z U cl]:da cd);obtain⟨D,hD⟩:=zE w.heap.size;obtain⟨W1,BT⟩:=zE (w.alloc (ua #[Z U op,Z U d,Z U a,Z U b,Z U ff,Z U nn,tM Hb,tP ga args.length gc,tP mo mn mc,Z U Hc,Z U Hh,Z U ln,Z U cl] 42));have Hi:=iq BT;have D0:W1.heap[D]?=tB (ua ic 42 (0,0)):=by rw[<-BT,<-hD,<-Bm];exact alloc_at _ _
 have D1:W1.heap.size=D+1:=by rw[<-BT,<-hD];simp
 obtain⟨S2,ws⟩:=zE ((λW=>bh W1.heap.size W1 W):World->Prop);have uv:cm (∀W,S2 W->bh W1.heap.size W1 W):=λW hW=>by rw[<-ws] at hW;exact hW
 have vu:cm (∀W,bh W1.heap.size W1 W->S2 W):=λW hW=>by rw[<-ws];exact hW
 have vi:cm (∀w w',S2 w->Gw w w'->S2 w'):=λw w' h A=>by
  have h1:=uv.out w h;exact vu.out _ (h1.trans (pw A h1.size))
 have vq:cm (∀W,S2 W->W.cell? ⟨D,1,tD⟩=tB (Z U d)/\W.cell? ⟨D,2,tD⟩=tB (Z U a)/\W.cell? ⟨D,3,tD⟩=tB (Z U b)/\D<W.heap.size):=λW hW=>by
  have hr:=((uv.out W hW).block D (ae D0)).trans D0;exact⟨(rowAt hr 1 (by rw[<-Bm];rfl)).1,(rowAt hr 2 (by rw[<-Bm];rfl)).1,(rowAt hr 3 (by rw[<-Bm];rfl)).1,ae hr⟩
 have v:=vu.out W1.drew (aq _ _).drew;have zj:cm (∀W,S2 W->gd ac 77 #[Z U f,Z U d] W λe w'=>e= ub (tW #[Z U f,Z U d,Z U (-1)])/\Gw W w'):=λW _=>(bT f d W).mono λe w' h=>h;have D2:cm (∀W,S2 W->gd ac 77 #[Z U f,Z U a] W λe w'=>e= ub (tW #[Z U f,Z U a,Z U (-1)])/\Gw W w'):=λW _=>(bT f a W).mono λe w' h=>h;have Hj:cm (∀W,S2 W->gd ac 77 #[Z U f,Z U b] W λe w'=>e= ub (tW #[Z U f,Z U b,Z U (-1)])/\Gw W w'):=λW _=>(bT f b W).mono λe w' h=>h;have H:=zH h;have Hk:=zH Hi;have wk:=zH D0;have Jc:=zH D1;have Jd:=zH BT;have BY:=zH Bm;have E6:=zH G1;have Je:=zH E4;have HX:=zH hX;have E7:=zH G3;clear h Hi D0 D1 ws BT Bm G1 E4 hX G3;go_enter func71,ntmps71
 go_upto_region 2 with(fail)
 rw[Jd.out];(try rw[hD])
 go_cut [9,10,11] (λs9 Jf Jg wc=>∃D9 ue ux,s9= tR (tB ⟨D9,0,tD⟩)/\Jf= tR (tB ⟨ue,0,tD⟩)/\Jg= tR (tB ⟨ux,0,tD⟩)/\IX W1 D D9 ue ux ic (av f d) (av f a) (av f b) wc)
 case first=>
  refine Ao S2 (by kernel_rfl) ?_;refine uT 0 rfl vi.out vq.out v ?_;clear v;intro V _ v;(try go_simp);refine uT 1 rfl vi.out vq.out v ?_;clear v;intro V _ v;(try go_simp);refine uT 2 rfl vi.out vq.out v ?_;clear v;intro V _ v;(try go_simp);refine uC (tW #[Z U f,Z U d,Z U (-1)]) 3 rfl vi.out v zj.out ?_;clear v;intro V _ v;(try go_simp);refine uT 4 rfl vi.out vq.out v ?_;clear v;intro V _ v;(try go_simp);refine uT 5 rfl vi.out vq.out v ?_;clear v;intro V _ v;(try go_simp);refine uT 6 rfl vi.out vq.out v ?_;clear v;intro V _ v;(try go_simp);refine uC (tW #[Z U f,Z U a,Z U (-1)]) 7 rfl vi.out v D2.out ?_;clear v;intro V _ v;(try go_simp);refine uT 8 rfl vi.out vq.out v ?_;clear v;intro V _ v;(try go_simp);refine uT 9 rfl vi.out vq.out v ?_;clear v;intro V _ v;(try go_simp);refine uT 10 rfl vi.out vq.out v ?_;clear v;intro V _ v;(try go_simp);refine uC (tW #[Z U f,Z U b,Z U (-1)]) 11 rfl vi.out v Hj.out ?_;clear v;intro V _ v;(try go_simp);refine G5 12 13 14 ?_ ?_ ?_
  ·refine uJ 12 rfl (λK' hK=> ?_) vi.out
   go_simp;obtain⟨D9,vm⟩:=zE V.heap.size;(try rw[vm]);have xT:W1.heap.size<=D9:=by rw[<-vm];exact(uv.out V v).size
   have va:(V.alloc (ua #[Z U 0,Z U 0,Z U 0] 164)).heap[D9]?=tB (ua #[Z U 0,Z U 0,Z U 0] 164 (0,0)):=by rw[<-vm];exact alloc_at _ _
   refine hK _ _ (vi.out _ _ v ((aq _ _).alloc (ce _) _)) ?_;clear hK v;intro ye A v;have J:=(cq A D9 (ae va)).trans va;clear A va vm;obtain⟨V,hV⟩:=zE ye;rw[hV] at v J⊢;clear hV;(try go_simp);refine GZ 13 14 ?_ ?_
   ·refine uJ 13 rfl (λK' hK=> ?_) vi.out
    go_simp;obtain⟨ue,vp⟩:=zE V.heap.size;(try rw[vp]);have ya:W1.heap.size<=ue:=by rw[<-vp];exact(uv.out V v).size
    have vc:(V.alloc (ua #[Z U 0,Z U 0,Z U 0] 164)).heap[ue]?=tB (ua #[Z U 0,Z U 0,Z U 0] 164 (0,0)):=by rw[<-vp];exact alloc_at _ _
    have Hn:D9<ue:=by rw[<-vp];exact ae J
    have va:=(cn V (ua #[Z U 0,Z U 0,Z U 0] 164) D9 (ae J)).trans J;refine hK _ _ (vi.out _ _ v ((aq _ _).alloc (ce _) _)) ?_;clear hK v;intro yi A v;clear J;have J:=(cq A D9 (ae va)).trans va;have uc:=(cq A ue (ae vc)).trans vc;clear A va vc vp;obtain⟨V,hV⟩:=zE yi;rw[hV] at v J uc⊢;clear hV;(try go_simp);refine uO 14 rfl vi.out λK' hK=> ?_;go_simp;obtain⟨ux,vr⟩:=zE V.heap.size;(try rw[vr]);have yb:W1.heap.size<=ux:=by rw[<-vr];exact(uv.out V v).size
    have vd:(V.alloc (ua #[Z U 0,Z U 0,Z U 0] 164)).heap[ux]?=tB (ua #[Z U 0,Z U 0,Z U 0] 164 (0,0)):=by rw[<-vr];exact alloc_at _ _
    have Hp:D9<ux:=by rw[<-vr];exact ae J
    have va:=(cn V (ua #[Z U 0,Z U 0,Z U 0] 164) D9 (ae J)).trans J;have Hs:ue<ux:=by rw[<-vr];exact ae uc
    have vc:=(cn V (ua #[Z U 0,Z U 0,Z U 0] 164) ue (ae uc)).trans uc;refine hK _ _ (vi.out _ _ v ((aq _ _).alloc (ce _) _)) ?_;clear hK v;intro yk A v;clear J;have J:=(cq A D9 (ae va)).trans va;clear uc;have uc:=(cq A ue (ae vc)).trans vc;have ud:=(cq A ux (ae vd)).trans vd;clear A va vc vd vr;obtain⟨V,hV⟩:=zE yk;rw[hV] at v J uc ud⊢;clear hV;(try go_simp);refine uO 15 rfl vi.out λK' hK=> ?_;obtain⟨vf,ur⟩:=bO J f d (-1);obtain⟨c0,f0⟩:=rowAt J 0 rfl;obtain⟨c1,f1⟩:=rowAt J 1 rfl;obtain⟨c2,f2⟩:=rowAt J 2 rfl;obtain⟨W',vh⟩:=zE (((V.setCell ⟨D9,0,tD⟩ (Z U f)).setCell ⟨D9,1,tD⟩ (Z U d)).setCell ⟨D9,2,tD⟩ (Z U (-1)));go_simp;(try rw[vh]);rw[vh] at vf ur;have vc:=ur.heap uc (λe=>by omega);have vd:=ur.heap ud (λe=>by omega);have vj:S2 W':=vu.out _ ((uv.out V v).trans (ur.below (uv.out V v).size (λq e=>by omega)));refine hK _ _ vj ?_;clear hK v ur c0 f0 c1 f1 c2 f2 vh;intro xo A v;clear J;have J:=(cq A D9 (ae vf)).trans vf;clear uc;have uc:=(cq A ue (ae vc)).trans vc;clear ud;have ud:=(cq A ux (ae vd)).trans vd;clear A vf vj vc vd;obtain⟨V,hV⟩:=zE xo;rw[hV] at v J uc ud⊢;clear hV;(try go_simp);refine uO 16 rfl vi.out λK' hK=> ?_;obtain⟨vf,ur⟩:=bO uc f a (-1);obtain⟨c0,f0⟩:=rowAt uc 0 rfl;obtain⟨c1,f1⟩:=rowAt uc 1 rfl;obtain⟨c2,f2⟩:=rowAt uc 2 rfl;obtain⟨W',vh⟩:=zE (((V.setCell ⟨ue,0,tD⟩ (Z U f)).setCell ⟨ue,1,tD⟩ (Z U a)).setCell ⟨ue,2,tD⟩ (Z U (-1)));go_simp;(try rw[vh]);rw[vh] at vf ur;have va:=ur.heap J (λe=>by omega);have vd:=ur.heap ud (λe=>by omega);have vj:S2 W':=vu.out _ ((uv.out V v).trans (ur.below (uv.out V v).size (λq e=>by omega)));refine hK _ _ vj ?_;clear hK v ur c0 f0 c1 f1 c2 f2 vh;intro xp A v;clear J;have J:=(cq A D9 (ae va)).trans va;clear uc;have uc:=(cq A ue (ae vf)).trans vf;clear ud;have ud:=(cq A ux (ae vd)).trans vd;clear A vf vj va vd;obtain⟨V,hV⟩:=zE xp;rw[hV] at v J uc ud⊢;clear hV;(try go_simp);refine uO 17 rfl vi.out λK' hK=> ?_;obtain⟨vf,ur⟩:=bO ud f b (-1);obtain⟨c0,f0⟩:=rowAt ud 0 rfl;obtain⟨c1,f1⟩:=rowAt ud 1 rfl;obtain⟨c2,f2⟩:=rowAt ud 2 rfl;obtain⟨W',vh⟩:=zE (((V.setCell ⟨ux,0,tD⟩ (Z U f)).setCell ⟨ux,1,tD⟩ (Z U b)).setCell ⟨ux,2,tD⟩ (Z U (-1)));go_simp;(try rw[vh]);rw[vh] at vf ur;have va:=ur.heap J (λe=>by omega);have vc:=ur.heap uc (λe=>by omega);have vj:S2 W':=vu.out _ ((uv.out V v).trans (ur.below (uv.out V v).size (λq e=>by omega)));refine hK _ _ vj ?_;clear hK v ur c0 f0 c1 f1 c2 f2 vh;intro xr A v;clear J;have J:=(cq A D9 (ae va)).trans va;clear uc;have uc:=(cq A ue (ae vc)).trans vc;clear ud;have ud:=(cq A ux (ae vf)).trans vf;clear A vf vj va vc;obtain⟨V,hV⟩:=zE xr;rw[hV] at v J uc ud⊢;clear hV;(try go_simp);refine⟨by kernel_rfl, ?_⟩;go_wp2
    go_meet
    case rel=>exact⟨D9,ue,ux,rfl,rfl,rfl,uv.out V v,((uv.out V v).block D (ae wk.out)).trans wk.out,J,uc,ud,xT,ya,yb⟩
   ·refine uJ 14 rfl (λK' hK=> ?_) vi.out
    go_simp;obtain⟨ux,vr⟩:=zE V.heap.size;(try rw[vr]);have yb:W1.heap.size<=ux:=by rw[<-vr];exact(uv.out V v).size
    have vd:(V.alloc (ua #[Z U 0,Z U 0,Z U 0] 164)).heap[ux]?=tB (ua #[Z U 0,Z U 0,Z U 0] 164 (0,0)):=by rw[<-vr];exact alloc_at _ _
    have Hp:D9<ux:=by rw[<-vr];exact ae J
    have va:=(cn V (ua #[Z U 0,Z U 0,Z U 0] 164) D9 (ae J)).trans J;refine hK _ _ (vi.out _ _ v ((aq _ _).alloc (ce _) _)) ?_;clear hK v;intro yk A v;clear J;have J:=(cq A D9 (ae va)).trans va;have ud:=(cq A ux (ae vd)).trans vd;clear A va vd vr;obtain⟨V,hV⟩:=zE yk;rw[hV] at v J ud⊢;clear hV;(try go_simp);refine uO 13 rfl vi.out λK' hK=> ?_;go_simp;obtain⟨ue,vp⟩:=zE V.heap.size;(try rw[vp]);have ya:W1.heap.size<=ue:=by rw[<-vp];exact(uv.out V v).size
    have vc:(V.alloc (ua #[Z U 0,Z U 0,Z U 0] 164)).heap[ue]?=tB (ua #[Z U 0,Z U 0,Z U 0] 164 (0,0)):=by rw[<-vp];exact alloc_at _ _
    have Hn:D9<ue:=by rw[<-vp];exact ae J
    have va:=(cn V (ua #[Z U 0,Z U 0,Z U 0] 164) D9 (ae J)).trans J;have Hv:ux<ue:=by rw[<-vp];exact ae ud
    have vd:=(cn V (ua #[Z U 0,Z U 0,Z U 0] 164) ux (ae ud)).trans ud;refine hK _ _ (vi.out _ _ v ((aq _ _).alloc (ce _) _)) ?_;clear hK v;intro yi A v;clear J;have J:=(cq A D9 (ae va)).trans va;clear ud;have ud:=(cq A ux (ae vd)).trans vd;have uc:=(cq A ue (ae vc)).trans vc;clear A va vd vc vp;obtain⟨V,hV⟩:=zE yi;rw[hV] at v J ud uc⊢;clear hV;(try go_simp);refine uO 15 rfl vi.out λK' hK=> ?_;obtain⟨vf,ur⟩:=bO J f d (-1);obtain⟨c0,f0⟩:=rowAt J 0 rfl;obtain⟨c1,f1⟩:=rowAt J 1 rfl;obtain⟨c2,f2⟩:=rowAt J 2 rfl;obtain⟨W',vh⟩:=zE (((V.setCell ⟨D9,0,tD⟩ (Z U f)).setCell ⟨D9,1,tD⟩ (Z U d)).setCell ⟨D9,2,tD⟩ (Z U (-1)));go_simp;(try rw[vh]);rw[vh] at vf ur;have vc:=ur.heap uc (λe=>by omega);have vd:=ur.heap ud (λe=>by omega);have vj:S2 W':=vu.out _ ((uv.out V v).trans (ur.below (uv.out V v).size (λq e=>by omega)));refine hK _ _ vj ?_;clear hK v ur c0 f0 c1 f1 c2 f2 vh;intro xo A v;clear J;have J:=(cq A D9 (ae vf)).trans vf;clear uc;have uc:=(cq A ue (ae vc)).trans vc;clear ud;have ud:=(cq A ux (ae vd)).trans vd;clear A vf vj vc vd;obtain⟨V,hV⟩:=zE xo;rw[hV] at v J uc ud⊢;clear hV;(try go_simp);refine uO 16 rfl vi.out λK' hK=> ?_;obtain⟨vf,ur⟩:=bO uc f a (-1);obtain⟨c0,f0⟩:=rowAt uc 0 rfl;obtain⟨c1,f1⟩:=rowAt uc 1 rfl;obtain⟨c2,f2⟩:=rowAt uc 2 rfl;obtain⟨W',vh⟩:=zE (((V.setCell ⟨ue,0,tD⟩ (Z U f)).setCell ⟨ue,1,tD⟩ (Z U a)).setCell ⟨ue,2,tD⟩ (Z U (-1)));go_simp;(try rw[vh]);rw[vh] at vf ur;have va:=ur.heap J (λe=>by omega);have vd:=ur.heap ud (λe=>by omega);have vj:S2 W':=vu.out _ ((uv.out V v).trans (ur.below (uv.out V v).size (λq e=>by omega)));refine hK _ _ vj ?_;clear hK v ur c0 f0 c1 f1 c2 f2 vh;intro xp A v;clear J;have J:=(cq A D9 (ae va)).trans va;clear uc;have uc:=(cq A ue (ae vf)).trans vf;clear ud;have ud:=(cq A ux (ae vd)).trans vd;clear A vf vj va vd;obtain⟨V,hV⟩:=zE xp;rw[hV] at v J uc ud⊢;clear hV;(try go_simp);refine uO 17 rfl vi.out λK' hK=> ?_;obtain⟨vf,ur⟩:=bO ud f b (-1);obtain⟨c0,f0⟩:=rowAt ud 0 rfl;obtain⟨c1,f1⟩:=rowAt ud 1 rfl;obtain⟨c2,f2⟩:=rowAt ud 2 rfl;obtain⟨W',vh⟩:=zE (((V.setCell ⟨ux,0,tD⟩ (Z U f)).setCell ⟨ux,1,tD⟩ (Z U b)).setCell ⟨ux,2,tD⟩ (Z U (-1)));go_simp;(try rw[vh]);rw[vh] at vf ur;have va:=ur.heap J (λe=>by omega);have vc:=ur.heap uc (λe=>by omega);have vj:S2 W':=vu.out _ ((uv.out V v).trans (ur.below (uv.out V v).size (λq e=>by omega)));refine hK _ _ vj ?_;clear hK v ur c0 f0 c1 f1 c2 f2 vh;intro xr A v;clear J;have J:=(cq A D9 (ae va)).trans va;clear uc;have uc:=(cq A ue (ae vc)).trans vc;clear ud;have ud:=(cq A ux (ae vf)).trans vf;clear A vf vj va vc;obtain⟨V,hV⟩:=zE xr;rw[hV] at v J uc ud⊢;clear hV;(try go_simp);refine⟨by kernel_rfl, ?_⟩;go_wp2
    go_meet
    case rel=>exact⟨D9,ue,ux,rfl,rfl,rfl,uv.out V v,((uv.out V v).block D (ae wk.out)).trans wk.out,J,uc,ud,xT,ya,yb⟩
  ·refine uJ 13 rfl (λK' hK=> ?_) vi.out
   go_simp;obtain⟨ue,vp⟩:=zE V.heap.size;(try rw[vp]);have ya:W1.heap.size<=ue:=by rw[<-vp];exact(uv.out V v).size
   have vc:(V.alloc (ua #[Z U 0,Z U 0,Z U 0] 164)).heap[ue]?=tB (ua #[Z U 0,Z U 0,Z U 0] 164 (0,0)):=by rw[<-vp];exact alloc_at _ _
   refine hK _ _ (vi.out _ _ v ((aq _ _).alloc (ce _) _)) ?_;clear hK v;intro yi A v;have uc:=(cq A ue (ae vc)).trans vc;clear A vc vp;obtain⟨V,hV⟩:=zE yi;rw[hV] at v uc⊢;clear hV;(try go_simp);refine GZ 12 14 ?_ ?_
   ·refine uJ 12 rfl (λK' hK=> ?_) vi.out
    go_simp;obtain⟨D9,vm⟩:=zE V.heap.size;(try rw[vm]);have xT:W1.heap.size<=D9:=by rw[<-vm];exact(uv.out V v).size
    have va:(V.alloc (ua #[Z U 0,Z U 0,Z U 0] 164)).heap[D9]?=tB (ua #[Z U 0,Z U 0,Z U 0] 164 (0,0)):=by rw[<-vm];exact alloc_at _ _
    have Hx:ue<D9:=by rw[<-vm];exact ae uc
    have vc:=(cn V (ua #[Z U 0,Z U 0,Z U 0] 164) ue (ae uc)).trans uc;refine hK _ _ (vi.out _ _ v ((aq _ _).alloc (ce _) _)) ?_;clear hK v;intro ye A v;clear uc;have uc:=(cq A ue (ae vc)).trans vc;have J:=(cq A D9 (ae va)).trans va;clear A vc va vm;obtain⟨V,hV⟩:=zE ye;rw[hV] at v uc J⊢;clear hV;(try go_simp);refine uO 14 rfl vi.out λK' hK=> ?_;go_simp;obtain⟨ux,vr⟩:=zE V.heap.size;(try rw[vr]);have yb:W1.heap.size<=ux:=by rw[<-vr];exact(uv.out V v).size
    have vd:(V.alloc (ua #[Z U 0,Z U 0,Z U 0] 164)).heap[ux]?=tB (ua #[Z U 0,Z U 0,Z U 0] 164 (0,0)):=by rw[<-vr];exact alloc_at _ _
    have Hs:ue<ux:=by rw[<-vr];exact ae uc
    have vc:=(cn V (ua #[Z U 0,Z U 0,Z U 0] 164) ue (ae uc)).trans uc;have Hp:D9<ux:=by rw[<-vr];exact ae J
    have va:=(cn V (ua #[Z U 0,Z U 0,Z U 0] 164) D9 (ae J)).trans J;refine hK _ _ (vi.out _ _ v ((aq _ _).alloc (ce _) _)) ?_;clear hK v;intro yk A v;clear uc;have uc:=(cq A ue (ae vc)).trans vc;clear J;have J:=(cq A D9 (ae va)).trans va;have ud:=(cq A ux (ae vd)).trans vd;clear A vc va vd vr;obtain⟨V,hV⟩:=zE yk;rw[hV] at v uc J ud⊢;clear hV;(try go_simp);refine uO 15 rfl vi.out λK' hK=> ?_;obtain⟨vf,ur⟩:=bO J f d (-1);obtain⟨c0,f0⟩:=rowAt J 0 rfl;obtain⟨c1,f1⟩:=rowAt J 1 rfl;obtain⟨c2,f2⟩:=rowAt J 2 rfl;obtain⟨W',vh⟩:=zE (((V.setCell ⟨D9,0,tD⟩ (Z U f)).setCell ⟨D9,1,tD⟩ (Z U d)).setCell ⟨D9,2,tD⟩ (Z U (-1)));go_simp;(try rw[vh]);rw[vh] at vf ur;have vc:=ur.heap uc (λe=>by omega);have vd:=ur.heap ud (λe=>by omega);have vj:S2 W':=vu.out _ ((uv.out V v).trans (ur.below (uv.out V v).size (λq e=>by omega)));refine hK _ _ vj ?_;clear hK v ur c0 f0 c1 f1 c2 f2 vh;intro xo A v;clear J;have J:=(cq A D9 (ae vf)).trans vf;clear uc;have uc:=(cq A ue (ae vc)).trans vc;clear ud;have ud:=(cq A ux (ae vd)).trans vd;clear A vf vj vc vd;obtain⟨V,hV⟩:=zE xo;rw[hV] at v J uc ud⊢;clear hV;(try go_simp);refine uO 16 rfl vi.out λK' hK=> ?_;obtain⟨vf,ur⟩:=bO uc f a (-1);obtain⟨c0,f0⟩:=rowAt uc 0 rfl;obtain⟨c1,f1⟩:=rowAt uc 1 rfl;obtain⟨c2,f2⟩:=rowAt uc 2 rfl;obtain⟨W',vh⟩:=zE (((V.setCell ⟨ue,0,tD⟩ (Z U f)).setCell ⟨ue,1,tD⟩ (Z U a)).setCell ⟨ue,2,tD⟩ (Z U (-1)));go_simp;(try rw[vh]);rw[vh] at vf ur;have va:=ur.heap J (λe=>by omega);have vd:=ur.heap ud (λe=>by omega);have vj:S2 W':=vu.out _ ((uv.out V v).trans (ur.below (uv.out V v).size (λq e=>by omega)));refine hK _ _ vj ?_;clear hK v ur c0 f0 c1 f1 c2 f2 vh;intro xp A v;clear J;have J:=(cq A D9 (ae va)).trans va;clear uc;have uc:=(cq A ue (ae vf)).trans vf;clear ud;have ud:=(cq A ux (ae vd)).trans vd;clear A vf vj va vd;obtain⟨V,hV⟩:=zE xp;rw[hV] at v J uc ud⊢;clear hV;(try go_simp);refine uO 17 rfl vi.out λK' hK=> ?_;obtain⟨vf,ur⟩:=bO ud f b (-1);obtain⟨c0,f0⟩:=rowAt ud 0 rfl;obtain⟨c1,f1⟩:=rowAt ud 1 rfl;obtain⟨c2,f2⟩:=rowAt ud 2 rfl;obtain⟨W',vh⟩:=zE (((V.setCell ⟨ux,0,tD⟩ (Z U f)).setCell ⟨ux,1,tD⟩ (Z U b)).setCell ⟨ux,2,tD⟩ (Z U (-1)));go_simp;(try rw[vh]);rw[vh] at vf ur;have va:=ur.heap J (λe=>by omega);have vc:=ur.heap uc (λe=>by omega);have vj:S2 W':=vu.out _ ((uv.out V v).trans (ur.below (uv.out V v).size (λq e=>by omega)));refine hK _ _ vj ?_;clear hK v ur c0 f0 c1 f1 c2 f2 vh;intro xr A v;clear J;have J:=(cq A D9 (ae va)).trans va;clear uc;have uc:=(cq A ue (ae vc)).trans vc;clear ud;have ud:=(cq A ux (ae vf)).trans vf;clear A vf vj va vc;obtain⟨V,hV⟩:=zE xr;rw[hV] at v J uc ud⊢;clear hV;(try go_simp);refine⟨by kernel_rfl, ?_⟩;go_wp2
    go_meet
    case rel=>exact⟨D9,ue,ux,rfl,rfl,rfl,uv.out V v,((uv.out V v).block D (ae wk.out)).trans wk.out,J,uc,ud,xT,ya,yb⟩
   ·refine uJ 14 rfl (λK' hK=> ?_) vi.out
    go_simp;obtain⟨ux,vr⟩:=zE V.heap.size;(try rw[vr]);have yb:W1.heap.size<=ux:=by rw[<-vr];exact(uv.out V v).size
    have vd:(V.alloc (ua #[Z U 0,Z U 0,Z U 0] 164)).heap[ux]?=tB (ua #[Z U 0,Z U 0,Z U 0] 164 (0,0)):=by rw[<-vr];exact alloc_at _ _
    have Hs:ue<ux:=by rw[<-vr];exact ae uc
    have vc:=(cn V (ua #[Z U 0,Z U 0,Z U 0] 164) ue (ae uc)).trans uc;refine hK _ _ (vi.out _ _ v ((aq _ _).alloc (ce _) _)) ?_;clear hK v;intro yk A v;clear uc;have uc:=(cq A ue (ae vc)).trans vc;have ud:=(cq A ux (ae vd)).trans vd;clear A vc vd vr;obtain⟨V,hV⟩:=zE yk;rw[hV] at v uc ud⊢;clear hV;(try go_simp);refine uO 12 rfl vi.out λK' hK=> ?_;go_simp;obtain⟨D9,vm⟩:=zE V.heap.size;(try rw[vm]);have xT:W1.heap.size<=D9:=by rw[<-vm];exact(uv.out V v).size
    have va:(V.alloc (ua #[Z U 0,Z U 0,Z U 0] 164)).heap[D9]?=tB (ua #[Z U 0,Z U 0,Z U 0] 164 (0,0)):=by rw[<-vm];exact alloc_at _ _
    have Hx:ue<D9:=by rw[<-vm];exact ae uc
    have vc:=(cn V (ua #[Z U 0,Z U 0,Z U 0] 164) ue (ae uc)).trans uc;have HU:ux<D9:=by rw[<-vm];exact ae ud
    have vd:=(cn V (ua #[Z U 0,Z U 0,Z U 0] 164) ux (ae ud)).trans ud;refine hK _ _ (vi.out _ _ v ((aq _ _).alloc (ce _) _)) ?_;clear hK v;intro ye A v;clear uc;have uc:=(cq A ue (ae vc)).trans vc;clear ud;have ud:=(cq A ux (ae vd)).trans vd;have J:=(cq A D9 (ae va)).trans va;clear A vc vd va vm;obtain⟨V,hV⟩:=zE ye;rw[hV] at v uc ud J⊢;clear hV;(try go_simp);refine uO 15 rfl vi.out λK' hK=> ?_;obtain⟨vf,ur⟩:=bO J f d (-1);obtain⟨c0,f0⟩:=rowAt J 0 rfl;obtain⟨c1,f1⟩:=rowAt J 1 rfl;obtain⟨c2,f2⟩:=rowAt J 2 rfl;obtain⟨W',vh⟩:=zE (((V.setCell ⟨D9,0,tD⟩ (Z U f)).setCell ⟨D9,1,tD⟩ (Z U d)).setCell ⟨D9,2,tD⟩ (Z U (-1)));go_simp;(try rw[vh]);rw[vh] at vf ur;have vc:=ur.heap uc (λe=>by omega);have vd:=ur.heap ud (λe=>by omega);have vj:S2 W':=vu.out _ ((uv.out V v).trans (ur.below (uv.out V v).size (λq e=>by omega)));refine hK _ _ vj ?_;clear hK v ur c0 f0 c1 f1 c2 f2 vh;intro xo A v;clear J;have J:=(cq A D9 (ae vf)).trans vf;clear uc;have uc:=(cq A ue (ae vc)).trans vc;clear ud;have ud:=(cq A ux (ae vd)).trans vd;clear A vf vj vc vd;obtain⟨V,hV⟩:=zE xo;rw[hV] at v J uc ud⊢;clear hV;(try go_simp);refine uO 16 rfl vi.out λK' hK=> ?_;obtain⟨vf,ur⟩:=bO uc f a (-1);obtain⟨c0,f0⟩:=rowAt uc 0 rfl;obtain⟨c1,f1⟩:=rowAt uc 1 rfl;obtain⟨c2,f2⟩:=rowAt uc 2 rfl;obtain⟨W',vh⟩:=zE (((V.setCell ⟨ue,0,tD⟩ (Z U f)).setCell ⟨ue,1,tD⟩ (Z U a)).setCell ⟨ue,2,tD⟩ (Z U (-1)));go_simp;(try rw[vh]);rw[vh] at vf ur;have va:=ur.heap J (λe=>by omega);have vd:=ur.heap ud (λe=>by omega);have vj:S2 W':=vu.out _ ((uv.out V v).trans (ur.below (uv.out V v).size (λq e=>by omega)));refine hK _ _ vj ?_;clear hK v ur c0 f0 c1 f1 c2 f2 vh;intro xp A v;clear J;have J:=(cq A D9 (ae va)).trans va;clear uc;have uc:=(cq A ue (ae vf)).trans vf;clear ud;have ud:=(cq A ux (ae vd)).trans vd;clear A vf vj va vd;obtain⟨V,hV⟩:=zE xp;rw[hV] at v J uc ud⊢;clear hV;(try go_simp);refine uO 17 rfl vi.out λK' hK=> ?_;obtain⟨vf,ur⟩:=bO ud f b (-1);obtain⟨c0,f0⟩:=rowAt ud 0 rfl;obtain⟨c1,f1⟩:=rowAt ud 1 rfl;obtain⟨c2,f2⟩:=rowAt ud 2 rfl;obtain⟨W',vh⟩:=zE (((V.setCell ⟨ux,0,tD⟩ (Z U f)).setCell ⟨ux,1,tD⟩ (Z U b)).setCell ⟨ux,2,tD⟩ (Z U (-1)));go_simp;(try rw[vh]);rw[vh] at vf ur;have va:=ur.heap J (λe=>by omega);have vc:=ur.heap uc (λe=>by omega);have vj:S2 W':=vu.out _ ((uv.out V v).trans (ur.below (uv.out V v).size (λq e=>by omega)));refine hK _ _ vj ?_;clear hK v ur c0 f0 c1 f1 c2 f2 vh;intro xr A v;clear J;have J:=(cq A D9 (ae va)).trans va;clear uc;have uc:=(cq A ue (ae vc)).trans vc;clear ud;have ud:=(cq A ux (ae vf)).trans vf;clear A vf vj va vc;obtain⟨V,hV⟩:=zE xr;rw[hV] at v J uc ud⊢;clear hV;(try go_simp);refine⟨by kernel_rfl, ?_⟩;go_wp2
    go_meet
    case rel=>exact⟨D9,ue,ux,rfl,rfl,rfl,uv.out V v,((uv.out V v).block D (ae wk.out)).trans wk.out,J,uc,ud,xT,ya,yb⟩
  ·refine uJ 14 rfl (λK' hK=> ?_) vi.out
   go_simp;obtain⟨ux,vr⟩:=zE V.heap.size;(try rw[vr]);have yb:W1.heap.size<=ux:=by rw[<-vr];exact(uv.out V v).size
   have vd:(V.alloc (ua #[Z U 0,Z U 0,Z U 0] 164)).heap[ux]?=tB (ua #[Z U 0,Z U 0,Z U 0] 164 (0,0)):=by rw[<-vr];exact alloc_at _ _
   refine hK _ _ (vi.out _ _ v ((aq _ _).alloc (ce _) _)) ?_;clear hK v;intro yk A v;have ud:=(cq A ux (ae vd)).trans vd;clear A vd vr;obtain⟨V,hV⟩:=zE yk;rw[hV] at v ud⊢;clear hV;(try go_simp);refine GZ 12 13 ?_ ?_
   ·refine uJ 12 rfl (λK' hK=> ?_) vi.out
    go_simp;obtain⟨D9,vm⟩:=zE V.heap.size;(try rw[vm]);have xT:W1.heap.size<=D9:=by rw[<-vm];exact(uv.out V v).size
    have va:(V.alloc (ua #[Z U 0,Z U 0,Z U 0] 164)).heap[D9]?=tB (ua #[Z U 0,Z U 0,Z U 0] 164 (0,0)):=by rw[<-vm];exact alloc_at _ _
    have HU:ux<D9:=by rw[<-vm];exact ae ud
    have vd:=(cn V (ua #[Z U 0,Z U 0,Z U 0] 164) ux (ae ud)).trans ud;refine hK _ _ (vi.out _ _ v ((aq _ _).alloc (ce _) _)) ?_;clear hK v;intro ye A v;clear ud;have ud:=(cq A ux (ae vd)).trans vd;have J:=(cq A D9 (ae va)).trans va;clear A vd va vm;obtain⟨V,hV⟩:=zE ye;rw[hV] at v ud J⊢;clear hV;(try go_simp);refine uO 13 rfl vi.out λK' hK=> ?_;go_simp;obtain⟨ue,vp⟩:=zE V.heap.size;(try rw[vp]);have ya:W1.heap.size<=ue:=by rw[<-vp];exact(uv.out V v).size
    have vc:(V.alloc (ua #[Z U 0,Z U 0,Z U 0] 164)).heap[ue]?=tB (ua #[Z U 0,Z U 0,Z U 0] 164 (0,0)):=by rw[<-vp];exact alloc_at _ _
    have Hv:ux<ue:=by rw[<-vp];exact ae ud
    have vd:=(cn V (ua #[Z U 0,Z U 0,Z U 0] 164) ux (ae ud)).trans ud;have Hn:D9<ue:=by rw[<-vp];exact ae J
    have va:=(cn V (ua #[Z U 0,Z U 0,Z U 0] 164) D9 (ae J)).trans J;refine hK _ _ (vi.out _ _ v ((aq _ _).alloc (ce _) _)) ?_;clear hK v;intro yi A v;clear ud;have ud:=(cq A ux (ae vd)).trans vd;clear J;have J:=(cq A D9 (ae va)).trans va;have uc:=(cq A ue (ae vc)).trans vc;clear A vd va vc vp;obtain⟨V,hV⟩:=zE yi;rw[hV] at v ud J uc⊢;clear hV;(try go_simp);refine uO 15 rfl vi.out λK' hK=> ?_;obtain⟨vf,ur⟩:=bO J f d (-1);obtain⟨c0,f0⟩:=rowAt J 0 rfl;obtain⟨c1,f1⟩:=rowAt J 1 rfl;obtain⟨c2,f2⟩:=rowAt J 2 rfl;obtain⟨W',vh⟩:=zE (((V.setCell ⟨D9,0,tD⟩ (Z U f)).setCell ⟨D9,1,tD⟩ (Z U d)).setCell ⟨D9,2,tD⟩ (Z U (-1)));go_simp;(try rw[vh]);rw[vh] at vf ur;have vc:=ur.heap uc (λe=>by omega);have vd:=ur.heap ud (λe=>by omega);have vj:S2 W':=vu.out _ ((uv.out V v).trans (ur.below (uv.out V v).size (λq e=>by omega)));refine hK _ _ vj ?_;clear hK v ur c0 f0 c1 f1 c2 f2 vh;intro xo A v;clear J;have J:=(cq A D9 (ae vf)).trans vf;clear uc;have uc:=(cq A ue (ae vc)).trans vc;clear ud;have ud:=(cq A ux (ae vd)).trans vd;clear A vf vj vc vd;obtain⟨V,hV⟩:=zE xo;rw[hV] at v J uc ud⊢;clear hV;(try go_simp);refine uO 16 rfl vi.out λK' hK=> ?_;obtain⟨vf,ur⟩:=bO uc f a (-1);obtain⟨c0,f0⟩:=rowAt uc 0 rfl;obtain⟨c1,f1⟩:=rowAt uc 1 rfl;obtain⟨c2,f2⟩:=rowAt uc 2 rfl;obtain⟨W',vh⟩:=zE (((V.setCell ⟨ue,0,tD⟩ (Z U f)).setCell ⟨ue,1,tD⟩ (Z U a)).setCell ⟨ue,2,tD⟩ (Z U (-1)));go_simp;(try rw[vh]);rw[vh] at vf ur;have va:=ur.heap J (λe=>by omega);have vd:=ur.heap ud (λe=>by omega);have vj:S2 W':=vu.out _ ((uv.out V v).trans (ur.below (uv.out V v).size (λq e=>by omega)));refine hK _ _ vj ?_;clear hK v ur c0 f0 c1 f1 c2 f2 vh;intro xp A v;clear J;have J:=(cq A D9 (ae va)).trans va;clear uc;have uc:=(cq A ue (ae vf)).trans vf;clear ud;have ud:=(cq A ux (ae vd)).trans vd;clear A vf vj va vd;obtain⟨V,hV⟩:=zE xp;rw[hV] at v J uc ud⊢;clear hV;(try go_simp);refine uO 17 rfl vi.out λK' hK=> ?_;obtain⟨vf,ur⟩:=bO ud f b (-1);obtain⟨c0,f0⟩:=rowAt ud 0 rfl;obtain⟨c1,f1⟩:=rowAt ud 1 rfl;obtain⟨c2,f2⟩:=rowAt ud 2 rfl;obtain⟨W',vh⟩:=zE (((V.setCell ⟨ux,0,tD⟩ (Z U f)).setCell ⟨ux,1,tD⟩ (Z U b)).setCell ⟨ux,2,tD⟩ (Z U (-1)));go_simp;(try rw[vh]);rw[vh] at vf ur;have va:=ur.heap J (λe=>by omega);have vc:=ur.heap uc (λe=>by omega);have vj:S2 W':=vu.out _ ((uv.out V v).trans (ur.below (uv.out V v).size (λq e=>by omega)));refine hK _ _ vj ?_;clear hK v ur c0 f0 c1 f1 c2 f2 vh;intro xr A v;clear J;have J:=(cq A D9 (ae va)).trans va;clear uc;have uc:=(cq A ue (ae vc)).trans vc;clear ud;have ud:=(cq A ux (ae vf)).trans vf;clear A vf vj va vc;obtain⟨V,hV⟩:=zE xr;rw[hV] at v J uc ud⊢;clear hV;(try go_simp);refine⟨by kernel_rfl, ?_⟩;go_wp2
    go_meet
    case rel=>exact⟨D9,ue,ux,rfl,rfl,rfl,uv.out V v,((uv.out V v).block D (ae wk.out)).trans wk.out,J,uc,ud,xT,ya,yb⟩
   ·refine uJ 13 rfl (λK' hK=> ?_) vi.out
    go_simp;obtain⟨ue,vp⟩:=zE V.heap.size;(try rw[vp]);have ya:W1.heap.size<=ue:=by rw[<-vp];exact(uv.out V v).size
    have vc:(V.alloc (ua #[Z U 0,Z U 0,Z U 0] 164)).heap[ue]?=tB (ua #[Z U 0,Z U 0,Z U 0] 164 (0,0)):=by rw[<-vp];exact alloc_at _ _
    have Hv:ux<ue:=by rw[<-vp];exact ae ud
    have vd:=(cn V (ua #[Z U 0,Z U 0,Z U 0] 164) ux (ae ud)).trans ud;refine hK _ _ (vi.out _ _ v ((aq _ _).alloc (ce _) _)) ?_;clear hK v;intro yi A v;clear ud;have ud:=(cq A ux (ae vd)).trans vd;have uc:=(cq A ue (ae vc)).trans vc;clear A vd vc vp;obtain⟨V,hV⟩:=zE yi;rw[hV] at v ud uc⊢;clear hV;(try go_simp);refine uO 12 rfl vi.out λK' hK=> ?_;go_simp;obtain⟨D9,vm⟩:=zE V.heap.size;(try rw[vm]);have xT:W1.heap.size<=D9:=by rw[<-vm];exact(uv.out V v).size
    have va:(V.alloc (ua #[Z U 0,Z U 0,Z U 0] 164)).heap[D9]?=tB (ua #[Z U 0,Z U 0,Z U 0] 164 (0,0)):=by rw[<-vm];exact alloc_at _ _
    have HU:ux<D9:=by rw[<-vm];exact ae ud
    have vd:=(cn V (ua #[Z U 0,Z U 0,Z U 0] 164) ux (ae ud)).trans ud;have Hx:ue<D9:=by rw[<-vm];exact ae uc
    have vc:=(cn V (ua #[Z U 0,Z U 0,Z U 0] 164) ue (ae uc)).trans uc;refine hK _ _ (vi.out _ _ v ((aq _ _).alloc (ce _) _)) ?_;clear hK v;intro ye A v;clear ud;have ud:=(cq A ux (ae vd)).trans vd;clear uc;have uc:=(cq A ue (ae vc)).trans vc;have J:=(cq A D9 (ae va)).trans va;clear A vd vc va vm;obtain⟨V,hV⟩:=zE ye;rw[hV] at v ud uc J⊢;clear hV;(try go_simp);refine uO 15 rfl vi.out λK' hK=> ?_;obtain⟨vf,ur⟩:=bO J f d (-1);obtain⟨c0,f0⟩:=rowAt J 0 rfl;obtain⟨c1,f1⟩:=rowAt J 1 rfl;obtain⟨c2,f2⟩:=rowAt J 2 rfl;obtain⟨W',vh⟩:=zE (((V.setCell ⟨D9,0,tD⟩ (Z U f)).setCell ⟨D9,1,tD⟩ (Z U d)).setCell ⟨D9,2,tD⟩ (Z U (-1)));go_simp;(try rw[vh]);rw[vh] at vf ur;have vc:=ur.heap uc (λe=>by omega);have vd:=ur.heap ud (λe=>by omega);have vj:S2 W':=vu.out _ ((uv.out V v).trans (ur.below (uv.out V v).size (λq e=>by omega)));refine hK _ _ vj ?_;clear hK v ur c0 f0 c1 f1 c2 f2 vh;intro xo A v;clear J;have J:=(cq A D9 (ae vf)).trans vf;clear uc;have uc:=(cq A ue (ae vc)).trans vc;clear ud;have ud:=(cq A ux (ae vd)).trans vd;clear A vf vj vc vd;obtain⟨V,hV⟩:=zE xo;rw[hV] at v J uc ud⊢;clear hV;(try go_simp);refine uO 16 rfl vi.out λK' hK=> ?_;obtain⟨vf,ur⟩:=bO uc f a (-1);obtain⟨c0,f0⟩:=rowAt uc 0 rfl;obtain⟨c1,f1⟩:=rowAt uc 1 rfl;obtain⟨c2,f2⟩:=rowAt uc 2 rfl;obtain⟨W',vh⟩:=zE (((V.setCell ⟨ue,0,tD⟩ (Z U f)).setCell ⟨ue,1,tD⟩ (Z U a)).setCell ⟨ue,2,tD⟩ (Z U (-1)));go_simp;(try rw[vh]);rw[vh] at vf ur;have va:=ur.heap J (λe=>by omega);have vd:=ur.heap ud (λe=>by omega);have vj:S2 W':=vu.out _ ((uv.out V v).trans (ur.below (uv.out V v).size (λq e=>by omega)));refine hK _ _ vj ?_;clear hK v ur c0 f0 c1 f1 c2 f2 vh;intro xp A v;clear J;have J:=(cq A D9 (ae va)).trans va;clear uc;have uc:=(cq A ue (ae vf)).trans vf;clear ud;have ud:=(cq A ux (ae vd)).trans vd;clear A vf vj va vd;obtain⟨V,hV⟩:=zE xp;rw[hV] at v J uc ud⊢;clear hV;(try go_simp);refine uO 17 rfl vi.out λK' hK=> ?_;obtain⟨vf,ur⟩:=bO ud f b (-1);obtain⟨c0,f0⟩:=rowAt ud 0 rfl;obtain⟨c1,f1⟩:=rowAt ud 1 rfl;obtain⟨c2,f2⟩:=rowAt ud 2 rfl;obtain⟨W',vh⟩:=zE (((V.setCell ⟨ux,0,tD⟩ (Z U f)).setCell ⟨ux,1,tD⟩ (Z U b)).setCell ⟨ux,2,tD⟩ (Z U (-1)));go_simp;(try rw[vh]);rw[vh] at vf ur;have va:=ur.heap J (λe=>by omega);have vc:=ur.heap uc (λe=>by omega);have vj:S2 W':=vu.out _ ((uv.out V v).trans (ur.below (uv.out V v).size (λq e=>by omega)));refine hK _ _ vj ?_;clear hK v ur c0 f0 c1 f1 c2 f2 vh;intro xr A v;clear J;have J:=(cq A D9 (ae va)).trans va;clear uc;have uc:=(cq A ue (ae vc)).trans vc;clear ud;have ud:=(cq A ux (ae vf)).trans vf;clear A vf vj va vc;obtain⟨V,hV⟩:=zE xr;rw[hV] at v J uc ud⊢;clear hV;(try go_simp);refine⟨by kernel_rfl, ?_⟩;go_wp2
    go_meet
    case rel=>exact⟨D9,ue,ux,rfl,rfl,rfl,uv.out V v,((uv.out V v).block D (ae wk.out)).trans wk.out,J,uc,ud,xT,ya,yb⟩
 case rest=>
  obtain⟨D9,ue,ux,rfl,rfl,rfl,hN⟩:=hcut;have Fc:bh w.heap.size w wc:=Hk.out.trans (hN.below.mono Hk.out.size);have hP:=H.out.grow Fc;have i0:=(rowAt hN.ins 0 (u:= Z U op) (by rw[<-BY.out];rfl)).1;have B4:∀k,w.heap.size<=k->tg k= .no:=λk hk=>er λe=>by have:=(H.out.lo k e).2;omega
  have D1:=Jc.out;have If:=B4 D9 (by have:=hN.l9;omega);have In:=B4 ue (by have:=hN.l10;omega);have Is:=B4 ux (by have:=hN.l11;omega);have It:=B4 D (by omega);have HN:=zH hN;have yp:=zH Fc;have HP:=zH hP;have D3:=zH If;have D4:=zH In;have Iv:=zH Is;have B5:=zH It;clear hN Fc hP B4 D1 If In Is It v zj D2 Hj vq vi vu uv
  by_cases Fi:op=12
  ·subst Fi
   obtain⟨j0,B6,B8,B9,Cd⟩:=gA sZ;have t0:wc.cell? ⟨T,2,tD⟩=tB (tP s.siA p.St.length s.siK):=(rowAt HP.out.row 2 rfl).1;have Jh:T<wc.heap.size:=ae HP.out.row;obtain⟨N,hN⟩:=zE wc.heap.size;have ID:∀k,(co s.siA p.St.length s.siK).ownBlock=tB k->k≠T/\tg k= .si/\k<wc.heap.size:=λk hk=>⟨λe=>by have:=HP.out.t5 k hk;rw[e,HP.out.t1] at this;simp at this,HP.out.t5 k hk,(HP.out.srow.lt k hk).2⟩
   have Ji:=zH ID;have Jj:B<=wc.heap.size:=HP.out.base;clear ID
   go_upto_region 6 with(at_builtin;refine bW rfl (.tmp 36) (.tmp 40) 62 rfl B 67 j0 _ 2 16 pL B6 B8 B9 Cd rfl (by decide) _ p.St.length (p.St.flatMap pR) rfl HP.out.srow N #[Z U f,Z U k] hN.symm rfl rfl (by simp[cj]) (by unfold dT;omega) (by omega) (by omega) ?_;intro v9 w9 yq we IF;obtain⟨At,c9,Cl⟩:=ai yq;subst Cl;have J:=we.heap HP.out.row (λe=>(Ji.out T e).1 rfl);obtain⟨t9,Jk⟩:=rowAt J 2 (u:= tP s.siA p.St.length s.siK) rfl;have Jl:=zH yq;have Jm:=zH we;have Jn:=zH IF;clear yq we IF J)
   have IH:=HP.out.sited (q:=(f,k)) (by omega) (Ext.refl _ _) Jm.out Jl.out Jn.out;obtain⟨W9,IN⟩:=zE (w9.setCell ⟨T,2,tD⟩ (tP At (p.St.length+1) c9));rw[IN] at IH⊢;obtain⟨JC,s5,Fk,Fl,IS⟩:=IH;obtain⟨p5,By⟩:=zE ({p with St:=p.St++[(f,k)]}:PS);rw[By] at Fk;obtain⟨n,hn⟩:=zE p.St.length;have IT:p5.St.length=n+1:=by rw[<-By,<-hn];simp
   have J:=Fl.heap HN.out.r9 (λe=>e.1 D3.out);obtain⟨V,hV⟩:=zE W9.drew;have vy:bh W9.heap.size W9 V:=by rw[<-hV];exact(aq _ _).drew
   have wx:=Fk.grow vy;have IZ:=(vy.block D9 (ae J)).trans J;have Jo:cm (Ext (λk=>tg k≠ .no/\¬ZA (tg k)) wc V):=Fl.trans (Ext.of_below_size (M:=λ_=>mb) vy) (λ_ h=>h.elim);have Jp:=zH IS;obtain⟨S5,wi⟩:=zE ((λW=>W=V):World->Prop);have v:S5 V:=by rw[<-wi]
   have vq:cm (∀W,S5 W->W.cell? ⟨T,2,tD⟩=tB (tP s5.siA (n+1) s5.siK)/\T<W.heap.size):=λW hW=>by
    rw[<-wi] at hW;have:V.cell? ⟨T,2,tD⟩=tB (tP s5.siA p5.St.length s5.siK):=(rowAt wx.row 2 rfl).1;rw[IT] at this;rw[hW];exact⟨this,ae wx.row⟩
   have Cp:cm (∀W,S5 W->∀j u,(#[Z U f,Z U d,Z U (-1)]:da cd).toList[j]?=tB u->W.cell? ((⟨D9,0,tD⟩:Addr).add j)=tB u):=λW hW=>by
    rw[<-wi] at hW;rw[hW];exact aS IZ
   have Jq:=zH (mE V wx (n1:=f) (n2:=d) (n3:= -1) (bY HX.out.1 HX.out.2.2.1) (x:=n) (by omega) (by rw[<-By];show p.H.length+1<=_;omega) (by rw[<-By];show p.td.length+1<=_;omega));have vx:=zH wx;have xt:=zH hV;have Jr:=zH By;have Js:=zH hn;have JD:me.wrap (n:bp)=(n:bp):=by rw[jx];omega
   clear t9 Jk IN Fk Fl IS IT J hV vy wx IZ wi t0 Jh Jj i0 hn By;refine ak 8 S5 (by kernel_rfl) ?_;rw[xt.out];refine zT 0 rfl vq.out ?_;(try go_simp);refine zL 1 rfl 164 ⟨D9,0,tD⟩ Cp.out cX ?_;(try go_simp);refine zT 2 rfl vq.out ?_;(try go_simp);refine zT 3 rfl vq.out ?_;(try go_simp);refine zT 4 rfl vq.out ?_;(try go_simp);refine zT 5 rfl vq.out ?_;(try go_simp);refine zT 6 rfl vq.out ?_;(try go_simp);refine zT 7 rfl vq.out ?_;(try go_simp);refine zK rfl λK' hK=> ?_;go_simp;go_at_call 120;refine Jq.out.mono ?_;rintro e w2 ⟨rfl,CA⟩;have Fm:=zH CA;clear CA;refine hK _ _ ?_;clear hK;refine⟨by kernel_rfl, ?_⟩;go_wp2
   go_end0
   refine⟨rfl,p5.add (av f d) n, ?_, ?_⟩
   ·rw[<-Jr.out,<-Js.out]
    exact Ib p f k _ rfl
   ·refine bF.below yp.out ?_
    exact(bF.step Jo.out Jp.out Fm.out).weak λ_ h=>h.elim
  have JE:((op:bp)==12)=tG:=gb Fi
  by_cases h9:op=9
  ·subst h9
   obtain⟨a0,a1,a2⟩:=(show wc.cell? ⟨ue,0,tD⟩=tB (Z U f)/\wc.cell? ⟨ue,1,tD⟩=tB (Z U a)/\wc.cell? ⟨ue,2,tD⟩=tB (Z U (-1)) from⟨(rowAt HN.out.r10 0 rfl).1,(rowAt HN.out.r10 1 rfl).1,(rowAt HN.out.r10 2 rfl).1⟩)
   obtain⟨b0,b1,b2⟩:=(show wc.cell? ⟨D9,0,tD⟩=tB (Z U f)/\wc.cell? ⟨D9,1,tD⟩=tB (Z U d)/\wc.cell? ⟨D9,2,tD⟩=tB (Z U (-1)) from⟨(rowAt HN.out.r9 0 rfl).1,(rowAt HN.out.r9 1 rfl).1,(rowAt HN.out.r9 2 rfl).1⟩)
   have Ax:=zH (fw wc HP.out (n1:=f) (n2:=a) (n3:= -1) (m1:=f) (m2:=d) (m3:= -1) (bY HX.out.1 HX.out.2.2.2.1) (bY HX.out.1 HX.out.2.2.1) (λn y h=>cY (E7.out n y h) (by decide)) (by omega) (by omega) (by omega))
   go_wp2_with (go_at_call 119;refine Ax.out.mono ?_;rintro e w2 ⟨rfl,p',I0,CA⟩;have Fm:=zH CA;have Jt:=zH I0;clear CA I0)
   go_end0
   refine⟨rfl,p', ?_, ?_⟩
   ·exact yz (by simp) (by simp) (by simp) ⟨p',Jt.out,rfl⟩
   ·exact bF.below yp.out (Fm.out.weak λ_ h=>h.elim)
  have e9:((op:bp)==9)=tG:=gb h9
  by_cases Fo:op=10
  ·subst Fo
   have hn:gT (f,a,-1):=bY HX.out.1 HX.out.2.2.2.1
   go_upto_region 10 with(fail)
   obtain⟨j0,B6,B8,B9,Cd⟩:=gA Ai;obtain⟨V,hV⟩:=zE wc.drew;have vy:bh wc.heap.size wc V:=by rw[<-hV];exact(aq _ _).drew
   have wx:=HP.out.grow vy;have AD:=(vy.block D (ae HN.out.ins)).trans HN.out.ins;have AE:=(vy.block ue (ae HN.out.r10)).trans HN.out.r10;have AF:=(vy.block D9 (ae HN.out.r9)).trans HN.out.r9;obtain⟨yr,yv⟩:=zE (Cx m HM FM GM s p.St.length p.td.length);have AG:V.heap[T]?=tB (ua yr 148 (0,0)):=by rw[<-yv];exact wx.row
   have CC:yr[5]?=tB (.map (tB GM)):=by rw[<-yv];rfl
   obtain⟨S2,ws⟩:=zE ((λw'=>w'.heap[T]?=tB (ua yr 148 (0,0))/\w'.heap[D]?=tB (ua ic 42 (0,0))/\w'.heap[ue]?=tB (ua #[Z U f,Z U a,Z U (-1)] 164 (0,0))/\w'.heap[D9]?=tB (ua #[Z U f,Z U d,Z U (-1)] 164 (0,0))):World->Prop);have uv:cm (∀W,W.heap[T]?=tB (ua yr 148 (0,0))->W.heap[D]?=tB (ua ic 42 (0,0))->W.heap[ue]?=tB (ua #[Z U f,Z U a,Z U (-1)] 164 (0,0))->W.heap[D9]?=tB (ua #[Z U f,Z U d,Z U (-1)] 164 (0,0))->S2 W):=λW a b c d=>by rw[<-ws];exact⟨a,b,c,d⟩
   have wg:cm (∀w,S2 w->w.cell? ⟨T,5,tD⟩=tB (.map (tB GM))/\T<w.heap.size/\D<w.heap.size/\w.cell? ⟨D,4,tD⟩=tB (Z U ff)):=λw hw=>by rw[<-ws] at hw;exact⟨(rowAt hw.1 5 CC).1,ae hw.1,ae hw.2.1,(rowAt hw.2.1 4 (by rw[<-BY.out];rfl)).1⟩
   have CD:cm (∀W,S2 W->∀j u,(#[Z U f,Z U a,Z U (-1)]:da cd).toList[j]?=tB u->W.cell? ((⟨ue,0,tD⟩:Addr).add j)=tB u):=λW hW=>by
    rw[<-ws] at hW;exact aS hW.2.2.1
   have CH:cm (∀W,S2 W->∀j u,(#[Z U f,Z U d,Z U (-1)]:da cd).toList[j]?=tB u->W.cell? ((⟨D9,0,tD⟩:Addr).add j)=tB u):=λW hW=>by
    rw[<-ws] at hW;exact aS hW.2.2.2
   have Fr:S2 V:=uv.out _ AG AD AE AF;have AH:=zH AG;have Ft:=zH yv;have wk:=zH AD;have CM:=zH AE;have CN:=zH AF;have vx:=zH wx;have xt:=zH hV;have FA:=zH vy;obtain⟨ao,cap,CT,xl,C3⟩:=wx.gs _ hn;have yy:=zH CT;have FF:=zH xl;have FG:=zH C3;have Ju:(p.gl (f,a,-1)).length<=400:=by
    unfold PS.gl;rw[ei];exact cY (ki _ _) lG
   clear ws AG CC yv AD AE AF wx hV vy CT xl C3;refine ak 14 S2 (by kernel_rfl) ?_;rw[xt.out];refine zT 0 rfl wg.out ?_;(try go_simp);refine zT 1 rfl wg.out ?_;(try go_simp);refine zT 2 rfl wg.out ?_;(try go_simp);refine zT 3 rfl wg.out ?_;(try go_simp);refine zL 4 rfl 164 ⟨ue,0,tD⟩ CD.out cX ?_;(try go_simp);refine zT 5 rfl wg.out ?_;(try go_simp);refine zT 6 rfl wg.out ?_;(try go_simp);refine zL 7 rfl 164 ⟨D9,0,tD⟩ CH.out cX ?_;(try go_simp);refine zT 8 rfl wg.out ?_;(try go_simp);refine zO 9 rfl λK' hK=> ?_;go_simp;obtain⟨G,hG⟩:=zE V.heap.size;obtain⟨W8,yW⟩:=zE (V.alloc (ua #[Z U ff,Z U f,Z U d,Z U (-1),tU tG] 213));(try rw[hG]);(try rw[yW]);have wj:bh V.heap.size V W8:=by rw[<-yW];exact(aq _ _).alloc (ce _) _
   have C4:W8.heap[G]?=tB (ua #[Z U ff,Z U f,Z U d,Z U (-1),tU tG] 213 (0,0)):=by rw[<-yW,<-hG];exact alloc_at _ _
   have AI:=(wj.block T (ae AH.out)).trans AH.out;have AK:=(wj.block D (ae wk.out)).trans wk.out;have AM:=(wj.block ue (ae CM.out)).trans CM.out;have AN:=(wj.block D9 (ae CN.out)).trans CN.out;have h8:=vx.out.grow wj;refine hK _ _ (uv.out _ AI AK AM AN) ?_;clear hK;(try go_simp);refine zO 10 rfl λK' hK=> ?_;obtain⟨c0,q0⟩:=h8.gm;obtain⟨W9,st,zc,we,AS,C5⟩:=q0.entry kU rb (tK W8) hn;unfold kS at zc;rw[yy.out] at zc;go_simp;(try simp only[zc]);(try go_simp);have Jv:GM<V.heap.size:=(vx.out.lo GM (by rw[vx.out.t4];simp)).2;have F0:¬T=GM:=λe=>by have:=vx.out.t1;rw[e,vx.out.t4] at this;simp at this
   have F2:¬D=GM:=λe=>by have:=B5.out;rw[e,vx.out.t4] at this;simp at this
   have Ge:¬ue=GM:=λe=>by have:=D4.out;rw[e,vx.out.t4] at this;simp at this
   have Gk:¬D9=GM:=λe=>by have:=D3.out;rw[e,vx.out.t4] at this;simp at this
   have wl:∀q,(co ao (p.gl (f,a,-1)).length cap).ownBlock=tB q->q≠T/\q≠GM/\q<V.heap.size/\q≠D/\q≠ue/\q≠D9:=λq hq=>by
    have z:=FG.out q (by rw[yy.out];exact hq);have xF:∀x,tg x≠ .gl (f,a,-1)->q≠x:=λx h e=>h (by rw[<-e];exact z);exact⟨xF _ (by rw[vx.out.t1];simp),xF _ (by rw[vx.out.t4];simp),(vx.out.lo q (by rw[z];simp)).2,xF _ (by rw[B5.out];simp),xF _ (by rw[D4.out];simp),xF _ (by rw[D3.out];simp)⟩
   have AT:=we.heap AI F0;have AW:=we.heap AK F2;have vm:=we.heap AM Ge;have A0:=we.heap AN Gk;have xl:=FF.out;rw[yy.out] at xl;have C6:=af xl (Ext.of_below_size (M:=λ_=>mb) wj) (λ_ _ h=>h);have yq:=af C6 we (λq hq e=>(wl q hq).2.1 e);have C7:=we.heap C4 (λe=>by omega);have Dd:S2 W9:=uv.out _ AT AW vm A0;refine hK _ _ Dd ?_;clear hK;(try go_simp);refine zT 11 rfl wg.out ?_;(try go_simp);refine zT 13 rfl wg.out ?_;(try go_simp);refine zO 12 rfl λK' hK=> ?_;have Dg:B<=W9.heap.size:=cY vx.out.base (cY wj.size we.size);have Do:(p.gl (f,a,-1)).length+1<=dT:=by unfold dT;omega
   refine aH (.tmp 66) (.tmp 71) 211 rfl B 213 j0 _ 5 40 underlying211 B6 B8 B9 Cd rfl (by decide) (tP ao (p.gl (f,a,-1)).length cap) (p.gl (f,a,-1)).length ((p.gl (f,a,-1)).flatMap GX) rfl yq (tB ⟨G,0,tD⟩) 1 1 [Z U ff,Z U f,Z U d,Z U (-1),tU tG] rfl rfl (λh=>by cases h) (λad GB j u hu=>by
    obtain rfl:(⟨G,0,tD⟩:Addr)=ad:=by simpa using GB
    rw[dc,cV,cc _ _ _ _ _ _ C7];simpa using hu) (by simp[cj]) Do (by omega) Dg ?_
   intro Jw Ds A2 DA A4;obtain⟨At,c9,Cl⟩:=ai A2;subst Cl;have xf:Ext (λq=>(co ao (p.gl (f,a,-1)).length cap).ownBlock=tB q) W9 Ds:=Ext.of_grown DA (λq hq=> .inl hq);have DB:=xf.heap AT (λe=>(wl _ e).1 rfl);have DE:=xf.heap AW (λe=>(wl _ e).2.2.2.1 rfl);have vp:=xf.heap vm (λe=>(wl _ e).2.2.2.2.1 rfl);have DG:=xf.heap A0 (λe=>(wl _ e).2.2.2.2.2 rfl);refine hK _ _ (uv.out _ DB DE vp DG) ?_;clear hK;(try go_simp);refine zK rfl λK' hK=> ?_;obtain⟨GC,DH,DM,A5⟩:=C5 Ds (tP At ((p.gl (f,a,-1)).length+1) c9) (xf.block GM AS.lt (λe=>(wl _ e).2.1 rfl));go_simp;(try simp only[DH]);(try go_simp);refine hK _ _ ?_;clear hK DH zc C5;refine⟨by kernel_rfl, ?_⟩;have A6:Ext (λq=>q=GM\/(co ao (p.gl (f,a,-1)).length cap).ownBlock=tB q) V W9:=Ext.trans (Ext.of_below_size (M:=λq=>q=GM\/(co ao (p.gl (f,a,-1)).length cap).ownBlock=tB q) wj) (we.mono (λq e=> .inl e)) (λq e=> .inl e);have DO:Ext (λq=>q=GM\/(co ao (p.gl (f,a,-1)).length cap).ownBlock=tB q) V GC:=(A6.trans (xf.mono (λq e=> .inr e)) (λq e=> .inl e)).trans (A5.mono (λq e=> .inl e)) (λq e=> .inl e);have DP:∀q,(co At ((p.gl (f,a,-1)).length+1) c9).ownBlock=tB q->(co ao (p.gl (f,a,-1)).length cap).ownBlock=tB q\/V.heap.size<=q:=λq hq=>by
    rcases A4 q hq with z|z
    ·exact .inl z
    ·exact .inr (cY A6.size z)
   have DQ:=af A2 A5 (λq hq e=>by
    rcases A4 q hq with z|z
    ·exact(wl q z).2.1 e
    ·have:=AS.lt
     omega)
   have zd:=zH (vx.out.gotten (b:=(ff,(f,d,-1),tG)) hn yy.out DO DM DQ DP);clear Dd DB DE vp DG xf DA A4 Do Dg C7 yq C6 AT AW vm A0 wl xl we AS q0 h8 AI AK AM AN C4 wj yW hG Fr CH CD wg uv AH Ft A6 DO DP DQ A2 A5 DM;go_wp2
   go_end0
   refine⟨rfl,_,EQ p f k _ (ff,(f,d,-1),tG) (by simp) (by simp) (by simp) (by simp) (by simp[jo,av]), ?_⟩;exact bF.below yp.out (bF.below FA.out zd.out)
  have JF:((op:bp)==10)=tG:=gb Fo
  by_cases GE:op=11
  ·subst GE
   have hn:gT (f,a,-1):=bY HX.out.1 HX.out.2.2.2.1
   go_upto_region 12 with(fail)
   obtain⟨j0,B6,B8,B9,Cd⟩:=gA Ai;obtain⟨V,hV⟩:=zE wc.drew;have vy:bh wc.heap.size wc V:=by rw[<-hV];exact(aq _ _).drew
   have wx:=HP.out.grow vy;have AD:=(vy.block D (ae HN.out.ins)).trans HN.out.ins;have AE:=(vy.block ue (ae HN.out.r10)).trans HN.out.r10;have AF:=(vy.block ux (ae HN.out.r11)).trans HN.out.r11;obtain⟨yr,yv⟩:=zE (Cx m HM FM GM s p.St.length p.td.length);have AG:V.heap[T]?=tB (ua yr 148 (0,0)):=by rw[<-yv];exact wx.row
   have CC:yr[5]?=tB (.map (tB GM)):=by rw[<-yv];rfl
   obtain⟨S2,ws⟩:=zE ((λw'=>w'.heap[T]?=tB (ua yr 148 (0,0))/\w'.heap[D]?=tB (ua ic 42 (0,0))/\w'.heap[ue]?=tB (ua #[Z U f,Z U a,Z U (-1)] 164 (0,0))/\w'.heap[ux]?=tB (ua #[Z U f,Z U b,Z U (-1)] 164 (0,0))):World->Prop);have uv:cm (∀W,W.heap[T]?=tB (ua yr 148 (0,0))->W.heap[D]?=tB (ua ic 42 (0,0))->W.heap[ue]?=tB (ua #[Z U f,Z U a,Z U (-1)] 164 (0,0))->W.heap[ux]?=tB (ua #[Z U f,Z U b,Z U (-1)] 164 (0,0))->S2 W):=λW a b c d=>by rw[<-ws];exact⟨a,b,c,d⟩
   have wg:cm (∀w,S2 w->w.cell? ⟨T,5,tD⟩=tB (.map (tB GM))/\T<w.heap.size/\D<w.heap.size/\w.cell? ⟨D,4,tD⟩=tB (Z U ff)):=λw hw=>by rw[<-ws] at hw;exact⟨(rowAt hw.1 5 CC).1,ae hw.1,ae hw.2.1,(rowAt hw.2.1 4 (by rw[<-BY.out];rfl)).1⟩
   have CD:cm (∀W,S2 W->∀j u,(#[Z U f,Z U a,Z U (-1)]:da cd).toList[j]?=tB u->W.cell? ((⟨ue,0,tD⟩:Addr).add j)=tB u):=λW hW=>by
    rw[<-ws] at hW;exact aS hW.2.2.1
   have CH:cm (∀W,S2 W->∀j u,(#[Z U f,Z U b,Z U (-1)]:da cd).toList[j]?=tB u->W.cell? ((⟨ux,0,tD⟩:Addr).add j)=tB u):=λW hW=>by
    rw[<-ws] at hW;exact aS hW.2.2.2
   have Fr:S2 V:=uv.out _ AG AD AE AF;have AH:=zH AG;have Ft:=zH yv;have wk:=zH AD;have CM:=zH AE;have CN:=zH AF;have vx:=zH wx;have xt:=zH hV;have FA:=zH vy;obtain⟨ao,cap,CT,xl,C3⟩:=wx.gs _ hn;have yy:=zH CT;have FF:=zH xl;have FG:=zH C3;have Ju:(p.gl (f,a,-1)).length<=400:=by
    unfold PS.gl;rw[ei];exact cY (ki _ _) lG
   clear ws AG CC yv AD AE AF wx hV vy CT xl C3;refine ak 14 S2 (by kernel_rfl) ?_;rw[xt.out];refine zT 0 rfl wg.out ?_;(try go_simp);refine zT 1 rfl wg.out ?_;(try go_simp);refine zT 2 rfl wg.out ?_;(try go_simp);refine zT 3 rfl wg.out ?_;(try go_simp);refine zL 4 rfl 164 ⟨ue,0,tD⟩ CD.out cX ?_;(try go_simp);refine zT 5 rfl wg.out ?_;(try go_simp);refine zT 6 rfl wg.out ?_;(try go_simp);refine zL 7 rfl 164 ⟨ux,0,tD⟩ CH.out cX ?_;(try go_simp);refine zT 8 rfl wg.out ?_;(try go_simp);refine zO 9 rfl λK' hK=> ?_;go_simp;obtain⟨G,hG⟩:=zE V.heap.size;obtain⟨W8,yW⟩:=zE (V.alloc (ua #[Z U ff,Z U f,Z U b,Z U (-1),tU tE] 213));(try rw[hG]);(try rw[yW]);have wj:bh V.heap.size V W8:=by rw[<-yW];exact(aq _ _).alloc (ce _) _
   have C4:W8.heap[G]?=tB (ua #[Z U ff,Z U f,Z U b,Z U (-1),tU tE] 213 (0,0)):=by rw[<-yW,<-hG];exact alloc_at _ _
   have AI:=(wj.block T (ae AH.out)).trans AH.out;have AK:=(wj.block D (ae wk.out)).trans wk.out;have AM:=(wj.block ue (ae CM.out)).trans CM.out;have AN:=(wj.block ux (ae CN.out)).trans CN.out;have h8:=vx.out.grow wj;refine hK _ _ (uv.out _ AI AK AM AN) ?_;clear hK;(try go_simp);refine zO 10 rfl λK' hK=> ?_;obtain⟨c0,q0⟩:=h8.gm;obtain⟨W9,st,zc,we,AS,C5⟩:=q0.entry kU rb (tK W8) hn;unfold kS at zc;rw[yy.out] at zc;go_simp;(try simp only[zc]);(try go_simp);have Jv:GM<V.heap.size:=(vx.out.lo GM (by rw[vx.out.t4];simp)).2;have F0:¬T=GM:=λe=>by have:=vx.out.t1;rw[e,vx.out.t4] at this;simp at this
   have F2:¬D=GM:=λe=>by have:=B5.out;rw[e,vx.out.t4] at this;simp at this
   have Ge:¬ue=GM:=λe=>by have:=D4.out;rw[e,vx.out.t4] at this;simp at this
   have Gk:¬ux=GM:=λe=>by have:=Iv.out;rw[e,vx.out.t4] at this;simp at this
   have wl:∀q,(co ao (p.gl (f,a,-1)).length cap).ownBlock=tB q->q≠T/\q≠GM/\q<V.heap.size/\q≠D/\q≠ue/\q≠ux:=λq hq=>by
    have z:=FG.out q (by rw[yy.out];exact hq);have xF:∀x,tg x≠ .gl (f,a,-1)->q≠x:=λx h e=>h (by rw[<-e];exact z);exact⟨xF _ (by rw[vx.out.t1];simp),xF _ (by rw[vx.out.t4];simp),(vx.out.lo q (by rw[z];simp)).2,xF _ (by rw[B5.out];simp),xF _ (by rw[D4.out];simp),xF _ (by rw[Iv.out];simp)⟩
   have AT:=we.heap AI F0;have AW:=we.heap AK F2;have vm:=we.heap AM Ge;have A0:=we.heap AN Gk;have xl:=FF.out;rw[yy.out] at xl;have C6:=af xl (Ext.of_below_size (M:=λ_=>mb) wj) (λ_ _ h=>h);have yq:=af C6 we (λq hq e=>(wl q hq).2.1 e);have C7:=we.heap C4 (λe=>by omega);have Dd:S2 W9:=uv.out _ AT AW vm A0;refine hK _ _ Dd ?_;clear hK;(try go_simp);refine zT 11 rfl wg.out ?_;(try go_simp);refine zT 13 rfl wg.out ?_;(try go_simp);refine zO 12 rfl λK' hK=> ?_;have Dg:B<=W9.heap.size:=cY vx.out.base (cY wj.size we.size);have Do:(p.gl (f,a,-1)).length+1<=dT:=by unfold dT;omega
   refine aH (.tmp 82) (.tmp 87) 211 rfl B 213 j0 _ 5 40 underlying211 B6 B8 B9 Cd rfl (by decide) (tP ao (p.gl (f,a,-1)).length cap) (p.gl (f,a,-1)).length ((p.gl (f,a,-1)).flatMap GX) rfl yq (tB ⟨G,0,tD⟩) 1 1 [Z U ff,Z U f,Z U b,Z U (-1),tU tE] rfl rfl (λh=>by cases h) (λad GB j u hu=>by
    obtain rfl:(⟨G,0,tD⟩:Addr)=ad:=by simpa using GB
    rw[dc,cV,cc _ _ _ _ _ _ C7];simpa using hu) (by simp[cj]) Do (by omega) Dg ?_
   intro Jw Ds A2 DA A4;obtain⟨At,c9,Cl⟩:=ai A2;subst Cl;have xf:Ext (λq=>(co ao (p.gl (f,a,-1)).length cap).ownBlock=tB q) W9 Ds:=Ext.of_grown DA (λq hq=> .inl hq);have DB:=xf.heap AT (λe=>(wl _ e).1 rfl);have DE:=xf.heap AW (λe=>(wl _ e).2.2.2.1 rfl);have vp:=xf.heap vm (λe=>(wl _ e).2.2.2.2.1 rfl);have DG:=xf.heap A0 (λe=>(wl _ e).2.2.2.2.2 rfl);refine hK _ _ (uv.out _ DB DE vp DG) ?_;clear hK;(try go_simp);refine zK rfl λK' hK=> ?_;obtain⟨GC,DH,DM,A5⟩:=C5 Ds (tP At ((p.gl (f,a,-1)).length+1) c9) (xf.block GM AS.lt (λe=>(wl _ e).2.1 rfl));go_simp;(try simp only[DH]);(try go_simp);refine hK _ _ ?_;clear hK DH zc C5;refine⟨by kernel_rfl, ?_⟩;have A6:Ext (λq=>q=GM\/(co ao (p.gl (f,a,-1)).length cap).ownBlock=tB q) V W9:=Ext.trans (Ext.of_below_size (M:=λq=>q=GM\/(co ao (p.gl (f,a,-1)).length cap).ownBlock=tB q) wj) (we.mono (λq e=> .inl e)) (λq e=> .inl e);have DO:Ext (λq=>q=GM\/(co ao (p.gl (f,a,-1)).length cap).ownBlock=tB q) V GC:=(A6.trans (xf.mono (λq e=> .inr e)) (λq e=> .inl e)).trans (A5.mono (λq e=> .inl e)) (λq e=> .inl e);have DP:∀q,(co At ((p.gl (f,a,-1)).length+1) c9).ownBlock=tB q->(co ao (p.gl (f,a,-1)).length cap).ownBlock=tB q\/V.heap.size<=q:=λq hq=>by
    rcases A4 q hq with z|z
    ·exact .inl z
    ·exact .inr (cY A6.size z)
   have DQ:=af A2 A5 (λq hq e=>by
    rcases A4 q hq with z|z
    ·exact(wl q z).2.1 e
    ·have:=AS.lt
     omega)
   have zd:=zH (vx.out.gotten (b:=(ff,(f,b,-1),tE)) hn yy.out DO DM DQ DP);clear Dd DB DE vp DG xf DA A4 Do Dg C7 yq C6 AT AW vm A0 wl xl we AS q0 h8 AI AK AM AN C4 wj yW hG Fr CH CD wg uv AH Ft A6 DO DP DQ A2 A5 DM;go_wp2
   go_end0
   refine⟨rfl,_,EQ p f k _ (ff,(f,b,-1),tE) (by simp) (by simp) (by simp) (by simp) (by simp[jo,av]), ?_⟩;exact bF.below yp.out (bF.below FA.out zd.out)
  have JG:((op:bp)==11)=tG:=gb GE
  by_cases GF:op=15
  ·subst GF
   have i7:=(rowAt HN.out.ins 7 (u:= tP ga args.length gc) (by rw[<-BY.out];rfl)).1;have JH:args.length<=40:=HX.out.2.2.2.2.2.2.2
   go_wp2_with fail
   go_loopw [96] (λc wq=>∃j:bx,j<=args.length/\c= Z U (j:bp)/\∃p',qf (gu f ff 0 (args.take j)) p p'/\Iy j p p'/\bF ZF T HM FM GM m B tg p' wc wq) (λc _=>args.length-(intOf c).toNat)
   case atStart=>exact⟨0,cN _,rfl,p,rfl,⟨by omega,by omega,by omega,E7.out⟩,HP.out.same (aq _ _)⟩
   case round=>
    obtain⟨j,hj,rfl,p',DS,zp,Jy⟩:=hrel;obtain⟨tg',s',Ek,Bk,EV⟩:=Jy;have E0:=Bk.heap HN.out.ins (λe=>e.1 B5.out);obtain⟨V,hV⟩:=zE wr.drew;have vy:bh wr.heap.size wr V:=by rw[<-hV];exact(aq _ _).drew
    obtain⟨S3,zr⟩:=zE ((λW=>bh wr.heap.size wr W):World->Prop);have vu:cm (∀W,bh wr.heap.size wr W->S3 W):=λW hW=>by rw[<-zr];exact hW
    have uv:cm (∀W,S3 W->bh wr.heap.size wr W):=λW hW=>by rw[<-zr] at hW;exact hW
    have yd:S3 V:=vu.out _ vy;have vq:cm (∀W,S3 W->W.cell? ⟨D,4,tD⟩=tB (Z U ff)/\D<W.heap.size):=λW hW=>by
     have hr:=((uv.out W hW).block D (ae E0)).trans E0;exact⟨(rowAt hr 4 (by rw[<-BY.out];rfl)).1,ae hr⟩
    have I4:=zp.f;have I5:=zp.h;have I6:=zp.t
    by_cases GO:j<args.length
    ·obtain⟨y,hy⟩:∃y,args[j]?=tB y:=⟨_,am GO⟩
     have JI:(j:bp)<(args.length:bp):=by omega
     have I7:=Je.out.below (w':=wr) ((E6.out.trans (yp.out.mono E6.out.size)).trans (Bk.below (cY E6.out.size yp.out.size) (λk e=>cY hB (HP.out.lo k e.1).1)));obtain⟨ag,JJ,rfl,JK,I8⟩:=I7 (λe=>by rw[e] at GO;simp at GO);have JL:=I8 j y hy;have I9:fO y:=HX.out.2.2.2.2.2.2.1 rfl y (cf hy);have zj:=zH (λW=>bT f y W);have D2:=zH (λW=>bT ff (j:bp) W);have Ax:cm (∀W,S3 W->gd ac 119 #[tR (tB ⟨T,0,tD⟩),tW #[Z U f,Z U y,Z U (-1)],tW #[Z U ff,Z U (j:bp),Z U (-1)]] W λe w'=>e= ub (.tuple #[])/\∃xj,ED (av f y) (av ff (j:bp)) p' xj/\bF ZF T HM FM GM m B tg' xj W w'):=λW hW=>
      fw W (Ek.grow (uv.out W hW)) (bY HX.out.1 I9) (bY HX.out.2.2.2.2.2.1 (oZ (by omega))) (λn z h=>cY (zp.xs n z h) (by decide)) (by omega) (by omega) (by omega)
     have GP:=zH Bk;have GS:=zH EV;have GT:=zH DS;have Jz:=zH zp;have HY:=zH hy;have xt:=zH hV;clear Ek Bk EV E0 hV vy zr I4 I5 I6 I8 I7 I9 DS zp hy
     go_upto_region 17 with(fail)
     refine ak 8 S3 (by kernel_rfl) ?_;rw[xt.out];refine zT 0 rfl vq.out ?_;(try go_simp);refine zT 1 rfl vq.out ?_;(try go_simp);refine zT 2 rfl vq.out ?_;(try go_simp);refine zT 4 rfl vq.out ?_;(try go_simp);refine zT 5 rfl vq.out ?_;(try go_simp);refine zT 6 rfl vq.out ?_;(try go_simp);refine zO 3 rfl λK' hK=> ?_;go_simp;go_at_call 77;refine(zj.out V).mono ?_;rintro e W5 ⟨rfl,zv⟩;have wi:S3 W5:=vu.out _ ((uv.out V yd).trans (zv.mono (uv.out V yd).size));refine hK _ _ wi ?_;clear hK yd zv;simp only[kS,av];(try go_simp);refine zO 7 rfl λK' hK=> ?_;go_simp;go_at_call 77;refine(D2.out W5).mono ?_;rintro e W6 ⟨rfl,Ja⟩;have E3:S3 W6:=vu.out _ ((uv.out W5 wi).trans (Ja.mono (uv.out W5 wi).size));refine hK _ _ E3 ?_;clear hK wi Ja;simp only[kS,av];(try go_simp);refine zK rfl λK' hK=> ?_;go_simp;go_at_call 119;refine(Ax.out W6 E3).mono ?_;rintro e w7 ⟨rfl,xj,An,As⟩;have zd:=zH As;have BE:=zH An;have JA:=zH (uv.out W6 E3);clear As An E3;refine hK _ _ ?_;clear hK;refine⟨by kernel_rfl, ?_⟩;go_wp2;go_roundw
     case rel=>exact⟨j+1,by omega,by go_num,xj,by
      rw[BU HY.out];exact qf.snoc BE.out GT.out,Jz.out.flow BE.out,bF.step GP.out GS.out (bF.below JA.out zd.out)⟩
     case measure=>simp[intOf];omega
    ·have JB:j=args.length:=by omega
     subst JB;rw[de] at DS;have J:=Bk.heap HN.out.r9 (λe=>e.1 D3.out);have Cp:cm (∀W,S3 W->∀j u,(#[Z U f,Z U d,Z U (-1)]:da cd).toList[j]?=tB u->W.cell? ((⟨D9,0,tD⟩:Addr).add j)=tB u):=λW hW=>aS (((uv.out W hW).block D9 (ae J)).trans J);have zj:=zH (λW=>jw ff W);have Ax:cm (∀W,S3 W->gd ac 119 #[tR (tB ⟨T,0,tD⟩),tW #[Z U ff,Z U (-1),Z U (-1)],tW #[Z U f,Z U d,Z U (-1)]] W λe w'=>e= ub (.tuple #[])/\∃xj,ED (cZ ff) (av f d) p' xj/\bF ZF T HM FM GM m B tg' xj W w'):=λW hW=>
      fw W (Ek.grow (uv.out W hW)) (qh HX.out.2.2.2.2.2.1) (bY HX.out.1 HX.out.2.2.1) (λn z h=>cY (zp.xs n z h) (by decide)) (by omega) (by omega) (by omega)
     have GP:=zH Bk;have GS:=zH EV;have GT:=zH DS;have xt:=zH hV;clear Ek Bk EV E0 hV vy zr I4 I5 I6 DS zp J
     go_upto_region 19 with(fail)
     refine ak 5 S3 (by kernel_rfl) ?_;rw[xt.out];refine zT 0 rfl vq.out ?_;(try go_simp);refine zT 1 rfl vq.out ?_;(try go_simp);refine zT 2 rfl vq.out ?_;(try go_simp);refine zL 4 rfl 164 ⟨D9,0,tD⟩ Cp.out cX ?_;(try go_simp);refine zO 3 rfl λK' hK=> ?_;go_simp;go_at_call 83;refine(zj.out V).mono ?_;rintro e W5 ⟨rfl,zv⟩;have wi:S3 W5:=vu.out _ ((uv.out V yd).trans (zv.mono (uv.out V yd).size));refine hK _ _ wi ?_;clear hK yd zv;simp only[kS,cZ];(try go_simp);refine zK rfl λK' hK=> ?_;go_simp;go_at_call 119;refine(Ax.out W5 wi).mono ?_;rintro e w7 ⟨rfl,xj,An,As⟩;have zd:=zH As;have BE:=zH An;have GW:=zH (uv.out W5 wi);clear As An wi;refine hK _ _ ?_;clear hK;refine⟨by kernel_rfl, ?_⟩;go_wp2
     go_end0
     refine⟨rfl,xj,yz (by simp) (by simp) (by simp) ?_,bF.below yp.out ((bF.step GP.out GS.out (bF.below GW.out zd.out)).weak λ_ h=>h.elim)⟩;simp only[iU,cE (by decide:¬((15:bp)=9)),rh];exact qf.snoc BE.out GT.out
  have JM:((op:bp)==15)=tG:=gb GF
  by_cases G0:op=18
  ·subst G0
   obtain⟨V,hV⟩:=zE wc.drew;have vy:bh wc.heap.size wc V:=by rw[<-hV];exact(aq _ _).drew
   obtain⟨S3,zr⟩:=zE ((λW=>bh wc.heap.size wc W):World->Prop);have vu:cm (∀W,bh wc.heap.size wc W->S3 W):=λW hW=>by rw[<-zr];exact hW
   have uv:cm (∀W,S3 W->bh wc.heap.size wc W):=λW hW=>by rw[<-zr] at hW;exact hW
   have yd:S3 V:=vu.out _ vy;have vq:cm (∀W,S3 W->wc.heap.size<=W.heap.size):=λW hW=>(uv.out W hW).size;have Cp:cm (∀W,S3 W->∀j u,(#[Z U f,Z U a,Z U (-1)]:da cd).toList[j]?=tB u->W.cell? ((⟨ue,0,tD⟩:Addr).add j)=tB u):=λW hW=>aS (((uv.out W hW).block ue (ae HN.out.r10)).trans HN.out.r10);have zj:=zH (λW=>jw f W);have Ax:cm (∀W,S3 W->gd ac 119 #[tR (tB ⟨T,0,tD⟩),tW #[Z U f,Z U a,Z U (-1)],tW #[Z U f,Z U (-1),Z U (-1)]] W λe w'=>e= ub (.tuple #[])/\∃xj,ED (av f a) (cZ f) p xj/\bF ZF T HM FM GM m B tg xj W w'):=λW hW=>
    fw W (HP.out.grow (uv.out W hW)) (bY HX.out.1 HX.out.2.2.2.1) (qh HX.out.1) (λn z h=>cY (E7.out n z h) (by decide)) (by omega) (by omega) (by omega)
   have xt:=zH hV;clear hV vy zr
   go_upto_region 21 with(fail)
   refine ak 4 S3 (by kernel_rfl) ?_;rw[xt.out];refine zT 0 rfl vq.out ?_;(try go_simp);refine zL 1 rfl 164 ⟨ue,0,tD⟩ Cp.out cX ?_;(try go_simp);refine zT 2 rfl vq.out ?_;(try go_simp);refine zO 3 rfl λK' hK=> ?_;go_simp;go_at_call 83;refine(zj.out V).mono ?_;rintro e W5 ⟨rfl,zv⟩;have wi:S3 W5:=vu.out _ ((uv.out V yd).trans (zv.mono (uv.out V yd).size));refine hK _ _ wi ?_;clear hK yd zv;simp only[kS,cZ];(try go_simp);refine zK rfl λK' hK=> ?_;go_simp;go_at_call 119;refine(Ax.out W5 wi).mono ?_;rintro e w7 ⟨rfl,xj,An,As⟩;have zd:=zH As;have BE:=zH An;have GW:=zH (uv.out W5 wi);clear As An wi;refine hK _ _ ?_;clear hK;refine⟨by kernel_rfl, ?_⟩;go_wp2
   go_end0
   exact⟨rfl,xj,yz (by simp) (by simp) (by simp) ⟨xj,BE.out,rfl⟩,bF.below yp.out (bF.below GW.out (zd.out.weak λ_ h=>h.elim))⟩
  have JN:((op:bp)==18)=tG:=gb G0;go_wp2
  go_end0
  refine⟨rfl,p,yz Fi Fo GE ?_,H.out.same yp.out⟩;simp only[iU,cE h9,cE GF,cE G0];rfl
end
end
end Go.Proofs.YtjomgckjhcfbgaaGreat
