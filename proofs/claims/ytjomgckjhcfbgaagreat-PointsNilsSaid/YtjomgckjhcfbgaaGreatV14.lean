/- Walks. -/
import Derived.Test.YtjomgckjhcfbgaaGreatV13
set_option maxRecDepth 100000
set_option maxHeartbeats 64000000
set_option linter.all false
namespace Go.Proofs.YtjomgckjhcfbgaaGreat
open Go.RowKit
open Go.Proofs.Tryz renaming prog→ac,underlying164→cq,underlying145→mu,underlying62→mL
open Go.RowKit.Below renaming refl→an,block→bm,heap_alloc→bt,mono→lr
open Go renaming heap_setCell_same→aq,Value→bo,cell_of_row→ci,maxLen→cX,Calls→et,Oper→fY,yielded→gh,Program→gA,info_parts→iu,ready_mono→i9
open _root_ renaming List→bh,Nat→bw,Int→ct,if_neg→cy,Array→cC,if_pos→cQ,Option→dr,False→fW,beq_false_of_ne→hU,Bool→iv
open Go.RowKit renaming Below→bj,Hid→cr
open Go.Value renaming slice→bk,oneCell'→bp,string→oe,slice→ot,pointer→ox,bool→oy,agg→oA,int→Z
open _root_.Nat renaming le_refl→bl,le_trans→cv,zero_add→cJ,zero_le→da
open _root_.List renaming getElem?_eq_getElem→ce,length_append→cm,mem_singleton→co,mem_append→cw,mem_of_getElem?→cA,length_map→dd,take_length→dl,mem_map→eh,mem_cons→eR,length_filter_le→gR,length_range→i8,range→ka,append_nil→ki,mem_range→m6
open Go.Region renaming ready→cG,wanted→cU,binds→dq,noSelect→el,Mode→ey,noSelect_spec→gn,free→gE,free_spec→ij
open Go.Addr renaming add_lit→cI
open _root_.Classical renaming byContradiction→ea
open _root_.Array renaming getElem?_setIfInBounds_ne→fy,replicate→ip,setIfInBounds_comm→kq
open Go.Oper renaming wp→ia
open Go.Act renaming put_comm→ju
open Go.Code renaming region→nt
open _root_.Option renaming some→oa,none→ob
open _root_.Bool renaming true→oc,false→od
open Go.Obj renaming cells→oB
open Go.Ending renaming returned→oE
open Go.IntKind renaming i64→U
open Tryz
def Gw (w w':World):Prop:=bj w.heap.size w w'
theorem Gw.refl (w:World):Gw w w:=an _ _
theorem Gw.trans {w w1 w2:World}(h:Gw w w1)(a:Gw w1 w2):Gw w w2:=Below.trans h (a.mono h.size)
section
variable {P:gA}{ops:cC fY}{Q:Exit->Act->World->Prop}{md:ey}{S:World->Prop}
def BU (P:gA)(v:bo)(w:World):Result Next->Prop
 | .ok (.value u) w'=>u=v/\Gw w w'
 | .ok (.enter f args) w'=>et P f args w' λe w''=>e= oE v/\Gw w w''
 |_=>fW
def bU (P:gA)(ops:cC fY)(S:World->Prop)(o:fY)(v:bo)(a:Act):Prop:=
 cU o (gh ops a.tmps)=oc/\∀w,S w->BU P v w ((execOp a.eval o).run P w)
theorem bU.of_same {o:fY}{v:bo}{a b:Act}(d:bU P ops S o v a)(f:execOp b.eval o=execOp a.eval o)
  (g:cU o (gh ops b.tmps)=cU o (gh ops a.tmps)):bU P ops S o v b:=by
 unfold bU at*;rw[f,g];exact d
theorem bU.wpOp {i:bw}{o:fY}{v:bo}{a:Act}(g:ops[i]?=oa o)(d:bU P ops S o v a)
  {K:Act->World->Prop}{w:World}(j:S w)(h:∀w',Gw w w'->K (a.put o.dst v) w'):wpOp P ops Q i K a w:=by
 unfold Go.wpOp;simp only[g,d.1,if_true,ia];refine .inl ?_;have:=d.2 w j;generalize (execOp a.eval o).run P w=r at*;cases r with
 |ok n w'=>
  cases n<;>simp only[BU] at this
  case value u=>obtain⟨rfl,b⟩:=this;exact h _ b
  case enter f args=>
   refine Calls.mono this λe w'' q=> ?_;obtain⟨rfl,b⟩:=q;exact h _ b
 |halt x w'=>exact this.elim
theorem vY {j:bw}{g o:fY}{v:bo}(hj:ops[j]?=oa o)(oS:g.apart ops o=oc)
  (oT:∀G b,g.op≠ .select G b)(R:∀G b,o.op≠ .select G b)
  (Y:∀c a w,Q (.panic c) (a.put g.dst v) w->Q (.panic c) a w){K:Act->World->Prop}{a:Act}{w:World}
  (q:bU P ops S g v a)(h:wpOp P ops Q j K (a.put g.dst v) w):
  wpOp P ops Q j (λa' w'=>bU P ops S g v a'/\K (a'.put g.dst v) w') a w:=by
 obtain⟨J,y,h3⟩:=Oper.apart_spec oS;have A:∀(a:Act),bU P ops S g v a->∀u,bU P ops S g v (a.put o.dst u):=λa q u=>
  q.of_same (execOp_put g oT a o.dst u h3) (wanted_put g a o.dst u h3)
 have oX:∀d,bU P ops S g v {a with defers:=d::a.defers}:=λd=>q.of_same rfl rfl;unfold wpOp at*;simp only[hj] at*;rw[wanted_put o a g.dst v J] at h
 split
 ·rename_i N
  simp only[N,if_true] at h;rcases h with h|⟨oR,oY⟩
  case inr=>exact .inr ⟨by unfold Oper.asks at*;rw[execOp_put o R a g.dst v J] at oR;exact oR,oY⟩
  refine .inl ?_;unfold ia at*;rw[execOp_put o R a g.dst v J] at h;generalize (execOp a.eval o).run P w=r at*;cases r with
  |ok n w'=>
   cases n<;>simp only[Oper.upon] at h⊢
   case value u=>exact⟨A a q u,by rw[<-ju a v u y];exact h⟩
   case skip=>exact⟨A a q _,by rw[<-ju a v undef y];exact h⟩
   case defer d=>
    refine⟨A _ (oX d) _, ?_⟩;rw[<-ju _ v undef y,<-Act.put_defers];exact h
   case enter f args=>
    refine Calls.mono h λe w'' D=> ?_;cases e with
    |returned u=>exact⟨A a q u,by rw[<-ju a v u y];exact D⟩
    |panicked c=>exact Y _ _ _ D
    |outgrown=>exact D
   case row row args=>exact Rows.mono h λu w'' D=>⟨A a q u,by rw[<-ju a v u y];exact D⟩
  |halt x w'=>
   cases x<;>simp only[Oper.upon] at h⊢
   case panic u=>exact Y _ _ _ h
 ·rename_i N
  simp only[N] at h;exact⟨A a q _,by rw[<-ju a v undef y];exact h⟩
def bQ (P:gA)(md:ey)(ops:cC fY)(Q:Exit->Act->World->Prop)(S:World->Prop):bw->cC iv->Act->World->Prop
 |0,listed,a,w=>cG md ops listed=[]/\Q .normal a w
 |fuel+1,listed,a,w=>
  (cG md ops listed=[]->Q .normal a w)/\
  ∀i∈cG md ops listed,wpOp P ops Q i (λb w'=>S w'/\∀w'',Gw w' w''->bQ P md ops Q S fuel (listed.setIfInBounds i oc) b w'') a w
theorem ou:∀(fuel:bw)(listed:cC iv)(a:Act)(w:World),bQ P md ops Q S fuel listed a w->wpAny P md ops Q fuel listed a w
 |0,_,_,_,h=>h
 |fuel+1,_,_,_,h=>⟨h.1,λi b=>wpOp_mono (λd w' f=>ou fuel _ d w' (f.2 w' (Gw.refl _))) (h.2 i b)⟩
theorem kE (N:∀w w',S w->Gw w w'->S w'){i:bw}{g:fY}{v:bo}(R:ops[i]?=oa g)(oR:∀(j:bw)(o:fY) y b,ops[j]?=oa o->o.op≠ .select y b)
  (hQ:∀c a w,Q (.panic c) (a.put g.dst v) w->Q (.panic c) a w):
  ∀(fuel:bw)(listed:cC iv)(a:Act)(w:World),
   (∀j q,ops[j]?=oa q->j≠i->listed.getD j oc=od->(∀e∈q.after,dq md e=oc->e.on≠i)->g.apart ops q=oc)->
   i∈cG md ops listed->listed[i]?=oa od->bU P ops S g v a->S w->
   (∀w',Gw w w'->bQ P md ops Q S fuel (listed.setIfInBounds i oc) (a.put g.dst v) w')->bQ P md ops Q S (fuel+1) listed a w:=by
 intro fuel
 induction fuel with
 |zero=>
  intro listed a w _ u _ G A H;refine⟨λh=>(by rw[h] at u;cases u),λj D=> ?_⟩
  by_cases d:j=i
  ·subst d;exact G.wpOp R A λw' f=>⟨N _ _ A f,λw'' Y=>H w'' (f.trans Y)⟩
  ·have:=i9 D d
   rw[(H w (Gw.refl w)).1] at this;cases this
 |succ fuel ih=>
  intro listed a w oS u oT G A H;refine⟨λh=>(by rw[h] at u;cases u),λj D=> ?_⟩
  by_cases d:j=i
  ·subst d;exact G.wpOp R A λw' f=>⟨N _ _ A f,λw'' Y=>H w'' (f.trans Y)⟩
  ·have h1:=(H w (Gw.refl w)).2 j (i9 D d)
   obtain⟨oX,q,J,pk⟩:=mem_ready.1 D;have pc:∀e∈q.after,dq md e=oc->e.on≠i:=λe he hb pd=>eT oT J he hb pd D;have h2:=vY J (oS j q J d oX pc) (λy b=>oR i g y b R) (λy b=>oR j q y b J) hQ G h1;have pf:∀k ok,ops[k]?=oa ok->k≠i->(listed.setIfInBounds j oc).getD k oc=od->
     (∀e∈ok.after,dq md e=oc->e.on≠i)->g.apart ops ok=oc:=λk ok hk ph oY pi=>by
    refine oS k ok hk ph ?_ pi
    by_cases pb:j=k
    ·subst pb;exact oX
    ·rw[getD_set_ne oc pb] at oY;exact oY
   refine wpOp_mono (λa' w' K=>⟨K.2.1,λw'' f=>ih (listed.setIfInBounds j oc) a' w'' pf (i9 u (Ne.symm d)) (by rw[fy d];exact oT) K.1 (N _ _ K.2.1 f) λw3 pj=> ?_⟩) h2;rw[kq _ _ d];exact K.2.2 w3 (f.trans pj)
theorem uT {C:World->Prop}(i:bw){b:fY}{v:bo}{fuel:bw}{listed:cC iv}{a:Act}{w:World}(f:ops[i]?=oa b)(g:∀w w',S w->Gw w w'->S w')
  (hC:∀w,S w->C w)(d:S w)
  (h:∀w',Gw w w'->S w'->bQ P md ops Q S fuel (listed.setIfInBounds i oc) (a.put b.dst v) w')
  (q:∀w,C w->(execOp a.eval b).run P w= .ok (.value v) w:=by intro w j;go_simp;try rfl)
  (j:cU b (gh ops a.tmps)=oc:=by rfl)
  (u:el ops=oc:=by kernel_rfl)(hf:gE md ops listed i=oc:=by kernel_rfl)(y:(cG md ops listed).contains i=oc:=by kernel_rfl)(A:listed[i]?=oa od:=by kernel_rfl)
  (D:∀c a w,Q (.panic c) (a.put b.dst v) w->Q (.panic c) a w:=by exact λ_ _ _ h=>h):bQ P md ops Q S (fuel+1) listed a w:=
 kE g f (gn u) D fuel listed a w (ij f hf) (by simpa using y) A ⟨j,λw d=>by rw[q w (hC w d)];exact⟨rfl,Gw.refl w⟩⟩ d λw' o=>h w' o (g _ _ d o)
theorem uC {f:FuncId}{args:cC bo}(v:bo)(i:bw){b:fY}{fuel:bw}{listed:cC iv}{a:Act}{w:World}(g:ops[i]?=oa b)(j:∀w w',S w->Gw w w'->S w')(d:S w)
  (q:∀w,S w->et P f args w λe w'=>e= oE v/\Gw w w')
  (h:∀w',Gw w w'->S w'->bQ P md ops Q S fuel (listed.setIfInBounds i oc) (a.put b.dst v) w')
  (u:∀w,(execOp a.eval b).run P w= .ok (.enter f args) w:=by intro w;go_simp;try rfl)
  (y:cU b (gh ops a.tmps)=oc:=by rfl)
  (A:el ops=oc:=by kernel_rfl)(hf:gE md ops listed i=oc:=by kernel_rfl)(D:(cG md ops listed).contains i=oc:=by kernel_rfl)(G:listed[i]?=oa od:=by kernel_rfl)
  (J:∀c a w,Q (.panic c) (a.put b.dst v) w->Q (.panic c) a w:=by exact λ_ _ _ h=>h):bQ P md ops Q S (fuel+1) listed a w:=
 kE j g (gn A) J fuel listed a w (ij g hf) (by simpa using D) G ⟨y,λw d=>by rw[u w];exact q w d⟩ d λw' o=>h w' o (j _ _ d o)
theorem uJ {fuel:bw}{listed:cC iv}{a:Act}{w:World}(i:bw){o:fY}(g:ops[i]?=oa o)
  (h:∀b:Act->World->Prop,(∀a w,S w->(∀w',Gw w w'->S w'->bQ P md ops Q S fuel (listed.setIfInBounds i oc) a w')->b a w)->ia P o a w b Q)(j:∀w w',S w->Gw w w'->S w')
  (q:cU o (gh ops a.tmps)=oc:=by rfl):wpOp P ops Q i (λu w'=>S w'/\∀w'',Gw w' w''->bQ P md ops Q S fuel (listed.setIfInBounds i oc) u w'') a w:=
 wpOp_step g (λb v=>by rw[cQ q];exact h b (λa w d y=>v a w ⟨d,λw'' f=>y w'' f (j _ _ d f)⟩))
theorem uO (i:bw){o:fY}{fuel:bw}{listed:cC iv}{a:Act}{w:World}(g:ops[i]?=oa o)(q:∀w w',S w->Gw w w'->S w')
  (h:∀b:Act->World->Prop,(∀a w,S w->(∀w',Gw w w'->S w'->bQ P md ops Q S fuel (listed.setIfInBounds i oc) a w')->b a w)->ia P o a w b Q)
  (u:cU o (gh ops a.tmps)=oc:=by rfl)(d:cG md ops listed=[i]:=by kernel_rfl):
  bQ P md ops Q S (fuel+1) listed a w:=by
 refine⟨λh0=>(by rw[d] at h0;cases h0),λj f=> ?_⟩;rw[d] at f;obtain rfl:=co.1 f;exact uJ j g h q u
theorem A7 (i j:bw){fuel:bw}{listed:cC iv}{a:Act}{w:World}
  (g:wpOp P ops Q i (λd w'=>S w'/\∀w'',Gw w' w''->bQ P md ops Q S fuel (listed.setIfInBounds i oc) d w'') a w)
  (h:wpOp P ops Q j (λd w'=>S w'/\∀w'',Gw w' w''->bQ P md ops Q S fuel (listed.setIfInBounds j oc) d w'') a w)
  (f:cG md ops listed=[i,j]:=by kernel_rfl):
  bQ P md ops Q S (fuel+1) listed a w:=by
 refine⟨λh0=>(by rw[f] at h0;cases h0),λk b=> ?_⟩;rw[f] at b;rcases eR.1 b with rfl|b
 ·exact g
 ·obtain rfl:=co.1 b
  exact h
theorem A8 (i j l:bw){fuel:bw}{listed:cC iv}{a:Act}{w:World}
  (g:wpOp P ops Q i (λd w'=>S w'/\∀w'',Gw w' w''->bQ P md ops Q S fuel (listed.setIfInBounds i oc) d w'') a w)
  (h:wpOp P ops Q j (λd w'=>S w'/\∀w'',Gw w' w''->bQ P md ops Q S fuel (listed.setIfInBounds j oc) d w'') a w)
  (o:wpOp P ops Q l (λd w'=>S w'/\∀w'',Gw w' w''->bQ P md ops Q S fuel (listed.setIfInBounds l oc) d w'') a w)
  (f:cG md ops listed=[i,j,l]:=by kernel_rfl):
  bQ P md ops Q S (fuel+1) listed a w:=by
 refine⟨λh0=>(by rw[f] at h0;cases h0),λk b=> ?_⟩;rw[f] at b;rcases eR.1 b with rfl|b
 ·exact g
 rcases eR.1 b with rfl|b
 ·exact h
 ·obtain rfl:=co.1 b
  exact o
theorem uA {id:bw}{a:Act}{w:World}(S:World->Prop)(b:P.follows .mixedOrders=oc)
  (h:bQ P .any ops Q S ops.size (ip ops.size od) a w.drew):(nt id ops oc).wp P Q a w:=
 wp_region_any b (ou _ _ _ _ h)
end
section
open Go.RowKit Go.Maps
theorem aS {V:World}{D:bw}{x y z:bo}(h:V.heap[D]?=oa (oB #[x,y,z] 164 (0,0)))(a b c:ct):
  (((V.setCell ⟨D,0,ob⟩ (Z U a)).setCell ⟨D,1,ob⟩ (Z U b)).setCell ⟨D,2,ob⟩ (Z U c)).heap[D]?=oa (oB #[Z U a,Z U b,Z U c] 164 (0,0))/\Ext (·=D) V (((V.setCell ⟨D,0,ob⟩ (Z U a)).setCell ⟨D,1,ob⟩ (Z U b)).setCell ⟨D,2,ob⟩ (Z U c)):=by
 have d:=aq V D 0 _ _ (Z U a) h;have f:=aq _ D 1 _ _ (Z U b) d;have g:=aq _ D 2 _ _ (Z U c) f;exact⟨g,((Ext.set1 V D 0 _).trans (Ext.set1 _ D 1 _) (λq e=> .inl e)).trans (Ext.set1 _ D 2 _) (λq e=> .inl e)⟩
theorem Bz (p:PS)(f k:ct)(i:Ins)(h:i.op=12):Aw f k i p (({p with St:=p.St++[(f,k)]}:PS).add (aX f i.d) p.St.length):=by
 unfold Aw PS.start nJ mq nK kW;simp only[h];simp[kX]
theorem zm (p:PS)(f k:ct)(i:Ins)(t:Th)(b:¬i.op=12)(d:¬i.op=9)(g:¬i.op=15)(h:¬i.op=18)(j:kW f i=[(aX f i.a,t)]):Aw f k i p {p with GL:=p.GL++[(aX f i.a,t)]}:=by
 unfold Aw PS.start nJ mq nK;rw[j];simp only[cy b,cy d,cy g,cy h];simp[kX]
theorem uB (p:PS)(f k:ct)(i:Ins)(a:¬i.op=12)(b:¬i.op=10)(d:¬i.op=11):p.start f k i=p:=by
 unfold PS.start mq nK kW;simp only[cy a,cy b,cy d,ki,List.foldl_nil]
theorem sj {p p':PS}{f k:ct}{i:Ins}(a:¬i.op=12)(b:¬i.op=10)(d:¬i.op=11)(h:kX (nJ f i) p p'):Aw f k i p p':=by
 unfold Aw;rw[uB p f k i a b d];exact h
theorem Ao:∀(d:bh (Nd×bw))(b:Nd),d.Nodup->(∀q∈d,q.1=b/\q.2<=400)->d.length<=401:=λd b g a=>by
 have:=eY d ((ka 401).map λx=>(b,x)) g λq f=>eh.2 ⟨q.2,m6.2 (by have:=(a q f).2;omega),by rw[<-(a q f).1]⟩;rw[dd,i8] at this;exact this
structure BF (j:bw)(p p':PS):Prop where
 f:p'.FL.length<=p.FL.length+j
 h:p'.H.length<=p.H.length+401*j
 t:p'.td.length<=p.td.length+401*j
 xs:∀n x,(n,x)∈p'.H->x<=400
theorem BF.flow {j:bw}{p p1 p':PS}{a b:Nd}(h:BF j p p1)(hf:yX a b p1 p'):BF (j+1) p p':=by
 rcases hf with⟨_,rfl⟩|⟨_,l,u,rfl⟩
 ·exact⟨by have:=h.f;omega,by have:=h.h;omega,by have:=h.t;omega,h.xs⟩
 ·obtain⟨_,A,_,⟨d,v,D,G,o⟩,_⟩:=gW (n:=b) l ({p1 with FL:=p1.FL++[(a,b)]}:PS)
  have J:=Ao d b G λq y=>⟨(o q y).2.1,h.xs _ _ ((u _).1 (o q y).2.2)⟩
  refine⟨?_, ?_, ?_,λn x g=> ?_⟩
  ·rw[A]
   show(p1.FL++[(a,b)]).length<=_
   have:=h.f;simp;omega
  ·rw[v,cm]
   have:({p1 with FL:=p1.FL++[(a,b)]}:PS).H.length<=_:=h.h;omega
  ·rw[D,cm]
   have:({p1 with FL:=p1.FL++[(a,b)]}:PS).td.length<=_:=h.t;omega
  ·rw[v] at g
   rcases cw.1 g with g|g
   ·exact h.xs n x g
   ·have:=o _ g
    exact h.xs a x ((u _).1 this.2.2)
theorem vZ {f g:ct}{l:bh ct}{j:bw}{x:ct}(h:l[j]?=oa x):fZ f g 0 (l.take (j+1))=fZ f g 0 (l.take j)++[(aX f x,aX g (j:ct))]:=by
 have b:∀(l:bh ct)(n j:bw),l[j]?=oa x->fZ f g n (l.take (j+1))=fZ f g n (l.take j)++[(aX f x,aX g ((n+j:bw):ct))]:=by
  intro l
  induction l with
  |nil=>intro n j h;simp at h
  |cons a r ih=>
   intro n j h;cases j with
   |zero=>
    obtain rfl:a=x:=by simpa using h
    simp[fZ]
   |succ j=>
    rw[List.take_succ_cons,List.take_succ_cons];unfold fZ;rw[ih (n+1) j (by simpa using h),show n+1+j=n+(j+1) by omega];rfl
 have:=b l 0 j h;rw[cJ] at this;exact this
structure BZ (W1:World)(D D9 D10 D11:bw)(ic:cC bo)(n9 n10 n11:Nd)(w:World):Prop where
 below:bj W1.heap.size W1 w
 ins:w.heap[D]?=oa (oB ic 42 (0,0))
 r9:w.heap[D9]?=oa (oB #[Z U n9.1,Z U n9.2.1,Z U n9.2.2] 164 (0,0))
 r10:w.heap[D10]?=oa (oB #[Z U n10.1,Z U n10.2.1,Z U n10.2.2] 164 (0,0))
 r11:w.heap[D11]?=oa (oB #[Z U n11.1,Z U n11.2.1,Z U n11.2.2] 164 (0,0))
 l9:W1.heap.size<=D9
 l10:W1.heap.size<=D10
 l11:W1.heap.size<=D11
section
variable {T HM FM GM:bw}{m:Mo}{B:bw}{tg tg1:bw->PT}{s s1:rY}{p p1 p':PS}{w w1 w':World}
theorem pR (w w0:World)(h:Pm T HM FM GM m B tg s p w)(hB:w0.heap.size<=B)(xF:bj w0.heap.size w0 w)(f k:ct)(i:Ins)(ga:dr Addr)(gc:bw)(xT:i.argsV= ot ga i.args.length gc)(A0:∃ao n cap,i.modeV= ot ao n cap)(vp:aV w0 ga i.args)
  (hX:wV (f,k,i))(ya:∀n x,(n,x)∈p.H->x<=400)(lS:p.St.length<=400)(lF:p.FL.length<=200000)(lG:p.GL.length<=400)(lH:p.H.length<=100000000)(lT:p.td.length<=100000000):
  et ac 71 #[ox (oa ⟨T,0,ob⟩),Z U f,Z U k,oA i.cells] w λe w'=>e= oE (.tuple #[])/\∃p',Aw f k i p p'/\aQ Z0 T HM FM GM m B tg p' w w':=by
 obtain⟨mo,mn,mc,yb⟩:=A0;obtain⟨op,d,a,b,ff,nn,yd,argsV,modeV,ye,yi,ln,cl,args⟩:=i;simp only at xT yb vp;subst xT yb;simp only[Ins.cells];obtain⟨ic,sR⟩:=zE (#[Z U op,Z U d,Z U a,Z U b,Z U ff,Z U nn,oe yd,ot ga args.length gc,ot mo mn mc,Z U ye,Z U yi,Z U ln,Z U cl]:cC bo);obtain⟨D,hD⟩:=zE w.heap.size;obtain⟨W1,sY⟩:=zE (w.alloc (oB #[Z U op,Z U d,Z U a,Z U b,Z U ff,Z U nn,oe yd,ot ga args.length gc,ot mo mn mc,Z U ye,Z U yi,Z U ln,Z U cl] 42));have yk:=jJ sY;have va:W1.heap[D]?=oa (oB ic 42 (0,0)):=by rw[<-sY,<-hD,<-sR];exact alloc_at _ _
 have vc:W1.heap.size=D+1:=by rw[<-sY,<-hD];simp
 obtain⟨S2,pH⟩:=zE ((λW=>bj W1.heap.size W1 W):World->Prop);have oS:cr (∀W,S2 W->bj W1.heap.size W1 W):=λW hW=>by rw[<-pH] at hW;exact hW
 have pm:cr (∀W,bj W1.heap.size W1 W->S2 W):=λW hW=>by rw[<-pH];exact hW
 have pf:cr (∀w w',S2 w->Gw w w'->S2 w'):=λw w' h o=>by
  have h1:=oS.out w h;exact pm.out _ (h1.trans (lr o h1.size))
 have pk:cr (∀W,S2 W->W.cell? ⟨D,1,ob⟩=oa (Z U d)/\W.cell? ⟨D,2,ob⟩=oa (Z U a)/\W.cell? ⟨D,3,ob⟩=oa (Z U b)/\D<W.heap.size):=λW hW=>by
  have hr:=((oS.out W hW).block D (aa va)).trans va;exact⟨(rowAt hr 1 (by rw[<-sR];rfl)).1,(rowAt hr 2 (by rw[<-sR];rfl)).1,(rowAt hr 3 (by rw[<-sR];rfl)).1,aa hr⟩
 have g:=pm.out W1.drew (an _ _).drew;have rl:cr (∀W,S2 W->et ac 77 #[Z U f,Z U d] W λe w'=>e= oE (oA #[Z U f,Z U d,Z U (-1)])/\Gw W w'):=λW _=>(aT f d W).mono λe w' h=>h;have vd:cr (∀W,S2 W->et ac 77 #[Z U f,Z U a] W λe w'=>e= oE (oA #[Z U f,Z U a,Z U (-1)])/\Gw W w'):=λW _=>(aT f a W).mono λe w' h=>h;have yp:cr (∀W,S2 W->et ac 77 #[Z U f,Z U b] W λe w'=>e= oE (oA #[Z U f,Z U b,Z U (-1)])/\Gw W w'):=λW _=>(aT f b W).mono λe w' h=>h;have H:=zH h;have yq:=zH yk;have pB:=zH va;have A1:=zH vc;have A2:=zH sY;have ta:=zH sR;have vq:=zH xF;have A3:=zH vp;have HX:=zH hX;have vr:=zH ya;clear h yk va vc pH sY sR xF vp hX ya;go_enter func71,ntmps71
 go_upto_region 2 with(fail)
 rw[A2.out];(try rw[hD])
 go_cut [9,10,11] (λs9 A4 A5 wc=>∃D9 Y oT,s9= ox (oa ⟨D9,0,ob⟩)/\A4= ox (oa ⟨Y,0,ob⟩)/\A5= ox (oa ⟨oT,0,ob⟩)/\BZ W1 D D9 Y oT ic (aX f d) (aX f a) (aX f b) wc)
 case first=>
  refine uA S2 (by kernel_rfl) ?_;refine uT 0 rfl pf.out pk.out g ?_;clear g;intro V _ g;(try go_simp);refine uT 1 rfl pf.out pk.out g ?_;clear g;intro V _ g;(try go_simp);refine uT 2 rfl pf.out pk.out g ?_;clear g;intro V _ g;(try go_simp);refine uC (oA #[Z U f,Z U d,Z U (-1)]) 3 rfl pf.out g rl.out ?_;clear g;intro V _ g;(try go_simp);refine uT 4 rfl pf.out pk.out g ?_;clear g;intro V _ g;(try go_simp);refine uT 5 rfl pf.out pk.out g ?_;clear g;intro V _ g;(try go_simp);refine uT 6 rfl pf.out pk.out g ?_;clear g;intro V _ g;(try go_simp);refine uC (oA #[Z U f,Z U a,Z U (-1)]) 7 rfl pf.out g vd.out ?_;clear g;intro V _ g;(try go_simp);refine uT 8 rfl pf.out pk.out g ?_;clear g;intro V _ g;(try go_simp);refine uT 9 rfl pf.out pk.out g ?_;clear g;intro V _ g;(try go_simp);refine uT 10 rfl pf.out pk.out g ?_;clear g;intro V _ g;(try go_simp);refine uC (oA #[Z U f,Z U b,Z U (-1)]) 11 rfl pf.out g yp.out ?_;clear g;intro V _ g;(try go_simp);refine A8 12 13 14 ?_ ?_ ?_
  ·refine uJ 12 rfl (λK' A=> ?_) pf.out
   go_simp;obtain⟨D9,pi⟩:=zE V.heap.size;(try rw[pi]);have qq:W1.heap.size<=D9:=by rw[<-pi];exact(oS.out V g).size
   have oX:(V.alloc (oB #[Z U 0,Z U 0,Z U 0] 164)).heap[D9]?=oa (oB #[Z U 0,Z U 0,Z U 0] 164 (0,0)):=by rw[<-pi];exact alloc_at _ _
   refine A _ _ (pf.out _ _ g ((an _ _).alloc (bl _) _)) ?_;clear A g;intro qu o g;have v:=(bm o D9 (aa oX)).trans oX;clear o oX pi;obtain⟨V,R⟩:=zE qu;rw[R] at g v⊢;clear R;(try go_simp);refine A7 13 14 ?_ ?_
   ·refine uJ 13 rfl (λK' A=> ?_) pf.out
    go_simp;obtain⟨Y,pj⟩:=zE V.heap.size;(try rw[pj]);have qr:W1.heap.size<=Y:=by rw[<-pj];exact(oS.out V g).size
    have oY:(V.alloc (oB #[Z U 0,Z U 0,Z U 0] 164)).heap[Y]?=oa (oB #[Z U 0,Z U 0,Z U 0] 164 (0,0)):=by rw[<-pj];exact alloc_at _ _
    have yr:D9<Y:=by rw[<-pj];exact aa v
    have oX:=(bt V (oB #[Z U 0,Z U 0,Z U 0] 164) D9 (aa v)).trans v;refine A _ _ (pf.out _ _ g ((an _ _).alloc (bl _) _)) ?_;clear A g;intro qv o g;clear v;have v:=(bm o D9 (aa oX)).trans oX;have J:=(bm o Y (aa oY)).trans oY;clear o oX oY pj;obtain⟨V,R⟩:=zE qv;rw[R] at g v J⊢;clear R;(try go_simp);refine uO 14 rfl pf.out λK' A=> ?_;go_simp;obtain⟨oT,pl⟩:=zE V.heap.size;(try rw[pl]);have qs:W1.heap.size<=oT:=by rw[<-pl];exact(oS.out V g).size
    have pb:(V.alloc (oB #[Z U 0,Z U 0,Z U 0] 164)).heap[oT]?=oa (oB #[Z U 0,Z U 0,Z U 0] 164 (0,0)):=by rw[<-pl];exact alloc_at _ _
    have yv:D9<oT:=by rw[<-pl];exact aa v
    have oX:=(bt V (oB #[Z U 0,Z U 0,Z U 0] 164) D9 (aa v)).trans v;have yy:Y<oT:=by rw[<-pl];exact aa J
    have oY:=(bt V (oB #[Z U 0,Z U 0,Z U 0] 164) Y (aa J)).trans J;refine A _ _ (pf.out _ _ g ((an _ _).alloc (bl _) _)) ?_;clear A g;intro qS o g;clear v;have v:=(bm o D9 (aa oX)).trans oX;clear J;have J:=(bm o Y (aa oY)).trans oY;have K:=(bm o oT (aa pb)).trans pb;clear o oX oY pb pl;obtain⟨V,R⟩:=zE qS;rw[R] at g v J K⊢;clear R;(try go_simp);refine uO 15 rfl pf.out λK' A=> ?_;obtain⟨pc,oR⟩:=aS v f d (-1);obtain⟨c0,f0⟩:=rowAt v 0 rfl;obtain⟨c1,f1⟩:=rowAt v 1 rfl;obtain⟨c2,f2⟩:=rowAt v 2 rfl;obtain⟨W',pd⟩:=zE (((V.setCell ⟨D9,0,ob⟩ (Z U f)).setCell ⟨D9,1,ob⟩ (Z U d)).setCell ⟨D9,2,ob⟩ (Z U (-1)));go_simp;(try rw[pd]);rw[pd] at pc oR;have oY:=oR.heap J (λe=>by omega);have pb:=oR.heap K (λe=>by omega);have ph:S2 W':=pm.out _ ((oS.out V g).trans (oR.below (oS.out V g).size (λq e=>by omega)));refine A _ _ ph ?_;clear A g oR c0 f0 c1 f1 c2 f2 pd;intro pT o g;clear v;have v:=(bm o D9 (aa pc)).trans pc;clear J;have J:=(bm o Y (aa oY)).trans oY;clear K;have K:=(bm o oT (aa pb)).trans pb;clear o pc ph oY pb;obtain⟨V,R⟩:=zE pT;rw[R] at g v J K⊢;clear R;(try go_simp);refine uO 16 rfl pf.out λK' A=> ?_;obtain⟨pc,oR⟩:=aS J f a (-1);obtain⟨c0,f0⟩:=rowAt J 0 rfl;obtain⟨c1,f1⟩:=rowAt J 1 rfl;obtain⟨c2,f2⟩:=rowAt J 2 rfl;obtain⟨W',pd⟩:=zE (((V.setCell ⟨Y,0,ob⟩ (Z U f)).setCell ⟨Y,1,ob⟩ (Z U a)).setCell ⟨Y,2,ob⟩ (Z U (-1)));go_simp;(try rw[pd]);rw[pd] at pc oR;have oX:=oR.heap v (λe=>by omega);have pb:=oR.heap K (λe=>by omega);have ph:S2 W':=pm.out _ ((oS.out V g).trans (oR.below (oS.out V g).size (λq e=>by omega)));refine A _ _ ph ?_;clear A g oR c0 f0 c1 f1 c2 f2 pd;intro pZ o g;clear v;have v:=(bm o D9 (aa oX)).trans oX;clear J;have J:=(bm o Y (aa pc)).trans pc;clear K;have K:=(bm o oT (aa pb)).trans pb;clear o pc ph oX pb;obtain⟨V,R⟩:=zE pZ;rw[R] at g v J K⊢;clear R;(try go_simp);refine uO 17 rfl pf.out λK' A=> ?_;obtain⟨pc,oR⟩:=aS K f b (-1);obtain⟨c0,f0⟩:=rowAt K 0 rfl;obtain⟨c1,f1⟩:=rowAt K 1 rfl;obtain⟨c2,f2⟩:=rowAt K 2 rfl;obtain⟨W',pd⟩:=zE (((V.setCell ⟨oT,0,ob⟩ (Z U f)).setCell ⟨oT,1,ob⟩ (Z U b)).setCell ⟨oT,2,ob⟩ (Z U (-1)));go_simp;(try rw[pd]);rw[pd] at pc oR;have oX:=oR.heap v (λe=>by omega);have oY:=oR.heap J (λe=>by omega);have ph:S2 W':=pm.out _ ((oS.out V g).trans (oR.below (oS.out V g).size (λq e=>by omega)));refine A _ _ ph ?_;clear A g oR c0 f0 c1 f1 c2 f2 pd;intro qe o g;clear v;have v:=(bm o D9 (aa oX)).trans oX;clear J;have J:=(bm o Y (aa oY)).trans oY;clear K;have K:=(bm o oT (aa pc)).trans pc;clear o pc ph oX oY;obtain⟨V,R⟩:=zE qe;rw[R] at g v J K⊢;clear R;(try go_simp);refine⟨by kernel_rfl, ?_⟩;go_wp2
    go_meet
    case rel=>exact⟨D9,Y,oT,rfl,rfl,rfl,oS.out V g,((oS.out V g).block D (aa pB.out)).trans pB.out,v,J,K,qq,qr,qs⟩
   ·refine uJ 14 rfl (λK' A=> ?_) pf.out
    go_simp;obtain⟨oT,pl⟩:=zE V.heap.size;(try rw[pl]);have qs:W1.heap.size<=oT:=by rw[<-pl];exact(oS.out V g).size
    have pb:(V.alloc (oB #[Z U 0,Z U 0,Z U 0] 164)).heap[oT]?=oa (oB #[Z U 0,Z U 0,Z U 0] 164 (0,0)):=by rw[<-pl];exact alloc_at _ _
    have yv:D9<oT:=by rw[<-pl];exact aa v
    have oX:=(bt V (oB #[Z U 0,Z U 0,Z U 0] 164) D9 (aa v)).trans v;refine A _ _ (pf.out _ _ g ((an _ _).alloc (bl _) _)) ?_;clear A g;intro qS o g;clear v;have v:=(bm o D9 (aa oX)).trans oX;have K:=(bm o oT (aa pb)).trans pb;clear o oX pb pl;obtain⟨V,R⟩:=zE qS;rw[R] at g v K⊢;clear R;(try go_simp);refine uO 13 rfl pf.out λK' A=> ?_;go_simp;obtain⟨Y,pj⟩:=zE V.heap.size;(try rw[pj]);have qr:W1.heap.size<=Y:=by rw[<-pj];exact(oS.out V g).size
    have oY:(V.alloc (oB #[Z U 0,Z U 0,Z U 0] 164)).heap[Y]?=oa (oB #[Z U 0,Z U 0,Z U 0] 164 (0,0)):=by rw[<-pj];exact alloc_at _ _
    have yr:D9<Y:=by rw[<-pj];exact aa v
    have oX:=(bt V (oB #[Z U 0,Z U 0,Z U 0] 164) D9 (aa v)).trans v;have yW:oT<Y:=by rw[<-pj];exact aa K
    have pb:=(bt V (oB #[Z U 0,Z U 0,Z U 0] 164) oT (aa K)).trans K;refine A _ _ (pf.out _ _ g ((an _ _).alloc (bl _) _)) ?_;clear A g;intro qv o g;clear v;have v:=(bm o D9 (aa oX)).trans oX;clear K;have K:=(bm o oT (aa pb)).trans pb;have J:=(bm o Y (aa oY)).trans oY;clear o oX pb oY pj;obtain⟨V,R⟩:=zE qv;rw[R] at g v K J⊢;clear R;(try go_simp);refine uO 15 rfl pf.out λK' A=> ?_;obtain⟨pc,oR⟩:=aS v f d (-1);obtain⟨c0,f0⟩:=rowAt v 0 rfl;obtain⟨c1,f1⟩:=rowAt v 1 rfl;obtain⟨c2,f2⟩:=rowAt v 2 rfl;obtain⟨W',pd⟩:=zE (((V.setCell ⟨D9,0,ob⟩ (Z U f)).setCell ⟨D9,1,ob⟩ (Z U d)).setCell ⟨D9,2,ob⟩ (Z U (-1)));go_simp;(try rw[pd]);rw[pd] at pc oR;have oY:=oR.heap J (λe=>by omega);have pb:=oR.heap K (λe=>by omega);have ph:S2 W':=pm.out _ ((oS.out V g).trans (oR.below (oS.out V g).size (λq e=>by omega)));refine A _ _ ph ?_;clear A g oR c0 f0 c1 f1 c2 f2 pd;intro pT o g;clear v;have v:=(bm o D9 (aa pc)).trans pc;clear J;have J:=(bm o Y (aa oY)).trans oY;clear K;have K:=(bm o oT (aa pb)).trans pb;clear o pc ph oY pb;obtain⟨V,R⟩:=zE pT;rw[R] at g v J K⊢;clear R;(try go_simp);refine uO 16 rfl pf.out λK' A=> ?_;obtain⟨pc,oR⟩:=aS J f a (-1);obtain⟨c0,f0⟩:=rowAt J 0 rfl;obtain⟨c1,f1⟩:=rowAt J 1 rfl;obtain⟨c2,f2⟩:=rowAt J 2 rfl;obtain⟨W',pd⟩:=zE (((V.setCell ⟨Y,0,ob⟩ (Z U f)).setCell ⟨Y,1,ob⟩ (Z U a)).setCell ⟨Y,2,ob⟩ (Z U (-1)));go_simp;(try rw[pd]);rw[pd] at pc oR;have oX:=oR.heap v (λe=>by omega);have pb:=oR.heap K (λe=>by omega);have ph:S2 W':=pm.out _ ((oS.out V g).trans (oR.below (oS.out V g).size (λq e=>by omega)));refine A _ _ ph ?_;clear A g oR c0 f0 c1 f1 c2 f2 pd;intro pZ o g;clear v;have v:=(bm o D9 (aa oX)).trans oX;clear J;have J:=(bm o Y (aa pc)).trans pc;clear K;have K:=(bm o oT (aa pb)).trans pb;clear o pc ph oX pb;obtain⟨V,R⟩:=zE pZ;rw[R] at g v J K⊢;clear R;(try go_simp);refine uO 17 rfl pf.out λK' A=> ?_;obtain⟨pc,oR⟩:=aS K f b (-1);obtain⟨c0,f0⟩:=rowAt K 0 rfl;obtain⟨c1,f1⟩:=rowAt K 1 rfl;obtain⟨c2,f2⟩:=rowAt K 2 rfl;obtain⟨W',pd⟩:=zE (((V.setCell ⟨oT,0,ob⟩ (Z U f)).setCell ⟨oT,1,ob⟩ (Z U b)).setCell ⟨oT,2,ob⟩ (Z U (-1)));go_simp;(try rw[pd]);rw[pd] at pc oR;have oX:=oR.heap v (λe=>by omega);have oY:=oR.heap J (λe=>by omega);have ph:S2 W':=pm.out _ ((oS.out V g).trans (oR.below (oS.out V g).size (λq e=>by omega)));refine A _ _ ph ?_;clear A g oR c0 f0 c1 f1 c2 f2 pd;intro qe o g;clear v;have v:=(bm o D9 (aa oX)).trans oX;clear J;have J:=(bm o Y (aa oY)).trans oY;clear K;have K:=(bm o oT (aa pc)).trans pc;clear o pc ph oX oY;obtain⟨V,R⟩:=zE qe;rw[R] at g v J K⊢;clear R;(try go_simp);refine⟨by kernel_rfl, ?_⟩;go_wp2
    go_meet
    case rel=>exact⟨D9,Y,oT,rfl,rfl,rfl,oS.out V g,((oS.out V g).block D (aa pB.out)).trans pB.out,v,J,K,qq,qr,qs⟩
  ·refine uJ 13 rfl (λK' A=> ?_) pf.out
   go_simp;obtain⟨Y,pj⟩:=zE V.heap.size;(try rw[pj]);have qr:W1.heap.size<=Y:=by rw[<-pj];exact(oS.out V g).size
   have oY:(V.alloc (oB #[Z U 0,Z U 0,Z U 0] 164)).heap[Y]?=oa (oB #[Z U 0,Z U 0,Z U 0] 164 (0,0)):=by rw[<-pj];exact alloc_at _ _
   refine A _ _ (pf.out _ _ g ((an _ _).alloc (bl _) _)) ?_;clear A g;intro qv o g;have J:=(bm o Y (aa oY)).trans oY;clear o oY pj;obtain⟨V,R⟩:=zE qv;rw[R] at g J⊢;clear R;(try go_simp);refine A7 12 14 ?_ ?_
   ·refine uJ 12 rfl (λK' A=> ?_) pf.out
    go_simp;obtain⟨D9,pi⟩:=zE V.heap.size;(try rw[pi]);have qq:W1.heap.size<=D9:=by rw[<-pi];exact(oS.out V g).size
    have oX:(V.alloc (oB #[Z U 0,Z U 0,Z U 0] 164)).heap[D9]?=oa (oB #[Z U 0,Z U 0,Z U 0] 164 (0,0)):=by rw[<-pi];exact alloc_at _ _
    have zc:Y<D9:=by rw[<-pi];exact aa J
    have oY:=(bt V (oB #[Z U 0,Z U 0,Z U 0] 164) Y (aa J)).trans J;refine A _ _ (pf.out _ _ g ((an _ _).alloc (bl _) _)) ?_;clear A g;intro qu o g;clear J;have J:=(bm o Y (aa oY)).trans oY;have v:=(bm o D9 (aa oX)).trans oX;clear o oY oX pi;obtain⟨V,R⟩:=zE qu;rw[R] at g J v⊢;clear R;(try go_simp);refine uO 14 rfl pf.out λK' A=> ?_;go_simp;obtain⟨oT,pl⟩:=zE V.heap.size;(try rw[pl]);have qs:W1.heap.size<=oT:=by rw[<-pl];exact(oS.out V g).size
    have pb:(V.alloc (oB #[Z U 0,Z U 0,Z U 0] 164)).heap[oT]?=oa (oB #[Z U 0,Z U 0,Z U 0] 164 (0,0)):=by rw[<-pl];exact alloc_at _ _
    have yy:Y<oT:=by rw[<-pl];exact aa J
    have oY:=(bt V (oB #[Z U 0,Z U 0,Z U 0] 164) Y (aa J)).trans J;have yv:D9<oT:=by rw[<-pl];exact aa v
    have oX:=(bt V (oB #[Z U 0,Z U 0,Z U 0] 164) D9 (aa v)).trans v;refine A _ _ (pf.out _ _ g ((an _ _).alloc (bl _) _)) ?_;clear A g;intro qS o g;clear J;have J:=(bm o Y (aa oY)).trans oY;clear v;have v:=(bm o D9 (aa oX)).trans oX;have K:=(bm o oT (aa pb)).trans pb;clear o oY oX pb pl;obtain⟨V,R⟩:=zE qS;rw[R] at g J v K⊢;clear R;(try go_simp);refine uO 15 rfl pf.out λK' A=> ?_;obtain⟨pc,oR⟩:=aS v f d (-1);obtain⟨c0,f0⟩:=rowAt v 0 rfl;obtain⟨c1,f1⟩:=rowAt v 1 rfl;obtain⟨c2,f2⟩:=rowAt v 2 rfl;obtain⟨W',pd⟩:=zE (((V.setCell ⟨D9,0,ob⟩ (Z U f)).setCell ⟨D9,1,ob⟩ (Z U d)).setCell ⟨D9,2,ob⟩ (Z U (-1)));go_simp;(try rw[pd]);rw[pd] at pc oR;have oY:=oR.heap J (λe=>by omega);have pb:=oR.heap K (λe=>by omega);have ph:S2 W':=pm.out _ ((oS.out V g).trans (oR.below (oS.out V g).size (λq e=>by omega)));refine A _ _ ph ?_;clear A g oR c0 f0 c1 f1 c2 f2 pd;intro pT o g;clear v;have v:=(bm o D9 (aa pc)).trans pc;clear J;have J:=(bm o Y (aa oY)).trans oY;clear K;have K:=(bm o oT (aa pb)).trans pb;clear o pc ph oY pb;obtain⟨V,R⟩:=zE pT;rw[R] at g v J K⊢;clear R;(try go_simp);refine uO 16 rfl pf.out λK' A=> ?_;obtain⟨pc,oR⟩:=aS J f a (-1);obtain⟨c0,f0⟩:=rowAt J 0 rfl;obtain⟨c1,f1⟩:=rowAt J 1 rfl;obtain⟨c2,f2⟩:=rowAt J 2 rfl;obtain⟨W',pd⟩:=zE (((V.setCell ⟨Y,0,ob⟩ (Z U f)).setCell ⟨Y,1,ob⟩ (Z U a)).setCell ⟨Y,2,ob⟩ (Z U (-1)));go_simp;(try rw[pd]);rw[pd] at pc oR;have oX:=oR.heap v (λe=>by omega);have pb:=oR.heap K (λe=>by omega);have ph:S2 W':=pm.out _ ((oS.out V g).trans (oR.below (oS.out V g).size (λq e=>by omega)));refine A _ _ ph ?_;clear A g oR c0 f0 c1 f1 c2 f2 pd;intro pZ o g;clear v;have v:=(bm o D9 (aa oX)).trans oX;clear J;have J:=(bm o Y (aa pc)).trans pc;clear K;have K:=(bm o oT (aa pb)).trans pb;clear o pc ph oX pb;obtain⟨V,R⟩:=zE pZ;rw[R] at g v J K⊢;clear R;(try go_simp);refine uO 17 rfl pf.out λK' A=> ?_;obtain⟨pc,oR⟩:=aS K f b (-1);obtain⟨c0,f0⟩:=rowAt K 0 rfl;obtain⟨c1,f1⟩:=rowAt K 1 rfl;obtain⟨c2,f2⟩:=rowAt K 2 rfl;obtain⟨W',pd⟩:=zE (((V.setCell ⟨oT,0,ob⟩ (Z U f)).setCell ⟨oT,1,ob⟩ (Z U b)).setCell ⟨oT,2,ob⟩ (Z U (-1)));go_simp;(try rw[pd]);rw[pd] at pc oR;have oX:=oR.heap v (λe=>by omega);have oY:=oR.heap J (λe=>by omega);have ph:S2 W':=pm.out _ ((oS.out V g).trans (oR.below (oS.out V g).size (λq e=>by omega)));refine A _ _ ph ?_;clear A g oR c0 f0 c1 f1 c2 f2 pd;intro qe o g;clear v;have v:=(bm o D9 (aa oX)).trans oX;clear J;have J:=(bm o Y (aa oY)).trans oY;clear K;have K:=(bm o oT (aa pc)).trans pc;clear o pc ph oX oY;obtain⟨V,R⟩:=zE qe;rw[R] at g v J K⊢;clear R;(try go_simp);refine⟨by kernel_rfl, ?_⟩;go_wp2
    go_meet
    case rel=>exact⟨D9,Y,oT,rfl,rfl,rfl,oS.out V g,((oS.out V g).block D (aa pB.out)).trans pB.out,v,J,K,qq,qr,qs⟩
   ·refine uJ 14 rfl (λK' A=> ?_) pf.out
    go_simp;obtain⟨oT,pl⟩:=zE V.heap.size;(try rw[pl]);have qs:W1.heap.size<=oT:=by rw[<-pl];exact(oS.out V g).size
    have pb:(V.alloc (oB #[Z U 0,Z U 0,Z U 0] 164)).heap[oT]?=oa (oB #[Z U 0,Z U 0,Z U 0] 164 (0,0)):=by rw[<-pl];exact alloc_at _ _
    have yy:Y<oT:=by rw[<-pl];exact aa J
    have oY:=(bt V (oB #[Z U 0,Z U 0,Z U 0] 164) Y (aa J)).trans J;refine A _ _ (pf.out _ _ g ((an _ _).alloc (bl _) _)) ?_;clear A g;intro qS o g;clear J;have J:=(bm o Y (aa oY)).trans oY;have K:=(bm o oT (aa pb)).trans pb;clear o oY pb pl;obtain⟨V,R⟩:=zE qS;rw[R] at g J K⊢;clear R;(try go_simp);refine uO 12 rfl pf.out λK' A=> ?_;go_simp;obtain⟨D9,pi⟩:=zE V.heap.size;(try rw[pi]);have qq:W1.heap.size<=D9:=by rw[<-pi];exact(oS.out V g).size
    have oX:(V.alloc (oB #[Z U 0,Z U 0,Z U 0] 164)).heap[D9]?=oa (oB #[Z U 0,Z U 0,Z U 0] 164 (0,0)):=by rw[<-pi];exact alloc_at _ _
    have zc:Y<D9:=by rw[<-pi];exact aa J
    have oY:=(bt V (oB #[Z U 0,Z U 0,Z U 0] 164) Y (aa J)).trans J;have zd:oT<D9:=by rw[<-pi];exact aa K
    have pb:=(bt V (oB #[Z U 0,Z U 0,Z U 0] 164) oT (aa K)).trans K;refine A _ _ (pf.out _ _ g ((an _ _).alloc (bl _) _)) ?_;clear A g;intro qu o g;clear J;have J:=(bm o Y (aa oY)).trans oY;clear K;have K:=(bm o oT (aa pb)).trans pb;have v:=(bm o D9 (aa oX)).trans oX;clear o oY pb oX pi;obtain⟨V,R⟩:=zE qu;rw[R] at g J K v⊢;clear R;(try go_simp);refine uO 15 rfl pf.out λK' A=> ?_;obtain⟨pc,oR⟩:=aS v f d (-1);obtain⟨c0,f0⟩:=rowAt v 0 rfl;obtain⟨c1,f1⟩:=rowAt v 1 rfl;obtain⟨c2,f2⟩:=rowAt v 2 rfl;obtain⟨W',pd⟩:=zE (((V.setCell ⟨D9,0,ob⟩ (Z U f)).setCell ⟨D9,1,ob⟩ (Z U d)).setCell ⟨D9,2,ob⟩ (Z U (-1)));go_simp;(try rw[pd]);rw[pd] at pc oR;have oY:=oR.heap J (λe=>by omega);have pb:=oR.heap K (λe=>by omega);have ph:S2 W':=pm.out _ ((oS.out V g).trans (oR.below (oS.out V g).size (λq e=>by omega)));refine A _ _ ph ?_;clear A g oR c0 f0 c1 f1 c2 f2 pd;intro pT o g;clear v;have v:=(bm o D9 (aa pc)).trans pc;clear J;have J:=(bm o Y (aa oY)).trans oY;clear K;have K:=(bm o oT (aa pb)).trans pb;clear o pc ph oY pb;obtain⟨V,R⟩:=zE pT;rw[R] at g v J K⊢;clear R;(try go_simp);refine uO 16 rfl pf.out λK' A=> ?_;obtain⟨pc,oR⟩:=aS J f a (-1);obtain⟨c0,f0⟩:=rowAt J 0 rfl;obtain⟨c1,f1⟩:=rowAt J 1 rfl;obtain⟨c2,f2⟩:=rowAt J 2 rfl;obtain⟨W',pd⟩:=zE (((V.setCell ⟨Y,0,ob⟩ (Z U f)).setCell ⟨Y,1,ob⟩ (Z U a)).setCell ⟨Y,2,ob⟩ (Z U (-1)));go_simp;(try rw[pd]);rw[pd] at pc oR;have oX:=oR.heap v (λe=>by omega);have pb:=oR.heap K (λe=>by omega);have ph:S2 W':=pm.out _ ((oS.out V g).trans (oR.below (oS.out V g).size (λq e=>by omega)));refine A _ _ ph ?_;clear A g oR c0 f0 c1 f1 c2 f2 pd;intro pZ o g;clear v;have v:=(bm o D9 (aa oX)).trans oX;clear J;have J:=(bm o Y (aa pc)).trans pc;clear K;have K:=(bm o oT (aa pb)).trans pb;clear o pc ph oX pb;obtain⟨V,R⟩:=zE pZ;rw[R] at g v J K⊢;clear R;(try go_simp);refine uO 17 rfl pf.out λK' A=> ?_;obtain⟨pc,oR⟩:=aS K f b (-1);obtain⟨c0,f0⟩:=rowAt K 0 rfl;obtain⟨c1,f1⟩:=rowAt K 1 rfl;obtain⟨c2,f2⟩:=rowAt K 2 rfl;obtain⟨W',pd⟩:=zE (((V.setCell ⟨oT,0,ob⟩ (Z U f)).setCell ⟨oT,1,ob⟩ (Z U b)).setCell ⟨oT,2,ob⟩ (Z U (-1)));go_simp;(try rw[pd]);rw[pd] at pc oR;have oX:=oR.heap v (λe=>by omega);have oY:=oR.heap J (λe=>by omega);have ph:S2 W':=pm.out _ ((oS.out V g).trans (oR.below (oS.out V g).size (λq e=>by omega)));refine A _ _ ph ?_;clear A g oR c0 f0 c1 f1 c2 f2 pd;intro qe o g;clear v;have v:=(bm o D9 (aa oX)).trans oX;clear J;have J:=(bm o Y (aa oY)).trans oY;clear K;have K:=(bm o oT (aa pc)).trans pc;clear o pc ph oX oY;obtain⟨V,R⟩:=zE qe;rw[R] at g v J K⊢;clear R;(try go_simp);refine⟨by kernel_rfl, ?_⟩;go_wp2
    go_meet
    case rel=>exact⟨D9,Y,oT,rfl,rfl,rfl,oS.out V g,((oS.out V g).block D (aa pB.out)).trans pB.out,v,J,K,qq,qr,qs⟩
  ·refine uJ 14 rfl (λK' A=> ?_) pf.out
   go_simp;obtain⟨oT,pl⟩:=zE V.heap.size;(try rw[pl]);have qs:W1.heap.size<=oT:=by rw[<-pl];exact(oS.out V g).size
   have pb:(V.alloc (oB #[Z U 0,Z U 0,Z U 0] 164)).heap[oT]?=oa (oB #[Z U 0,Z U 0,Z U 0] 164 (0,0)):=by rw[<-pl];exact alloc_at _ _
   refine A _ _ (pf.out _ _ g ((an _ _).alloc (bl _) _)) ?_;clear A g;intro qS o g;have K:=(bm o oT (aa pb)).trans pb;clear o pb pl;obtain⟨V,R⟩:=zE qS;rw[R] at g K⊢;clear R;(try go_simp);refine A7 12 13 ?_ ?_
   ·refine uJ 12 rfl (λK' A=> ?_) pf.out
    go_simp;obtain⟨D9,pi⟩:=zE V.heap.size;(try rw[pi]);have qq:W1.heap.size<=D9:=by rw[<-pi];exact(oS.out V g).size
    have oX:(V.alloc (oB #[Z U 0,Z U 0,Z U 0] 164)).heap[D9]?=oa (oB #[Z U 0,Z U 0,Z U 0] 164 (0,0)):=by rw[<-pi];exact alloc_at _ _
    have zd:oT<D9:=by rw[<-pi];exact aa K
    have pb:=(bt V (oB #[Z U 0,Z U 0,Z U 0] 164) oT (aa K)).trans K;refine A _ _ (pf.out _ _ g ((an _ _).alloc (bl _) _)) ?_;clear A g;intro qu o g;clear K;have K:=(bm o oT (aa pb)).trans pb;have v:=(bm o D9 (aa oX)).trans oX;clear o pb oX pi;obtain⟨V,R⟩:=zE qu;rw[R] at g K v⊢;clear R;(try go_simp);refine uO 13 rfl pf.out λK' A=> ?_;go_simp;obtain⟨Y,pj⟩:=zE V.heap.size;(try rw[pj]);have qr:W1.heap.size<=Y:=by rw[<-pj];exact(oS.out V g).size
    have oY:(V.alloc (oB #[Z U 0,Z U 0,Z U 0] 164)).heap[Y]?=oa (oB #[Z U 0,Z U 0,Z U 0] 164 (0,0)):=by rw[<-pj];exact alloc_at _ _
    have yW:oT<Y:=by rw[<-pj];exact aa K
    have pb:=(bt V (oB #[Z U 0,Z U 0,Z U 0] 164) oT (aa K)).trans K;have yr:D9<Y:=by rw[<-pj];exact aa v
    have oX:=(bt V (oB #[Z U 0,Z U 0,Z U 0] 164) D9 (aa v)).trans v;refine A _ _ (pf.out _ _ g ((an _ _).alloc (bl _) _)) ?_;clear A g;intro qv o g;clear K;have K:=(bm o oT (aa pb)).trans pb;clear v;have v:=(bm o D9 (aa oX)).trans oX;have J:=(bm o Y (aa oY)).trans oY;clear o pb oX oY pj;obtain⟨V,R⟩:=zE qv;rw[R] at g K v J⊢;clear R;(try go_simp);refine uO 15 rfl pf.out λK' A=> ?_;obtain⟨pc,oR⟩:=aS v f d (-1);obtain⟨c0,f0⟩:=rowAt v 0 rfl;obtain⟨c1,f1⟩:=rowAt v 1 rfl;obtain⟨c2,f2⟩:=rowAt v 2 rfl;obtain⟨W',pd⟩:=zE (((V.setCell ⟨D9,0,ob⟩ (Z U f)).setCell ⟨D9,1,ob⟩ (Z U d)).setCell ⟨D9,2,ob⟩ (Z U (-1)));go_simp;(try rw[pd]);rw[pd] at pc oR;have oY:=oR.heap J (λe=>by omega);have pb:=oR.heap K (λe=>by omega);have ph:S2 W':=pm.out _ ((oS.out V g).trans (oR.below (oS.out V g).size (λq e=>by omega)));refine A _ _ ph ?_;clear A g oR c0 f0 c1 f1 c2 f2 pd;intro pT o g;clear v;have v:=(bm o D9 (aa pc)).trans pc;clear J;have J:=(bm o Y (aa oY)).trans oY;clear K;have K:=(bm o oT (aa pb)).trans pb;clear o pc ph oY pb;obtain⟨V,R⟩:=zE pT;rw[R] at g v J K⊢;clear R;(try go_simp);refine uO 16 rfl pf.out λK' A=> ?_;obtain⟨pc,oR⟩:=aS J f a (-1);obtain⟨c0,f0⟩:=rowAt J 0 rfl;obtain⟨c1,f1⟩:=rowAt J 1 rfl;obtain⟨c2,f2⟩:=rowAt J 2 rfl;obtain⟨W',pd⟩:=zE (((V.setCell ⟨Y,0,ob⟩ (Z U f)).setCell ⟨Y,1,ob⟩ (Z U a)).setCell ⟨Y,2,ob⟩ (Z U (-1)));go_simp;(try rw[pd]);rw[pd] at pc oR;have oX:=oR.heap v (λe=>by omega);have pb:=oR.heap K (λe=>by omega);have ph:S2 W':=pm.out _ ((oS.out V g).trans (oR.below (oS.out V g).size (λq e=>by omega)));refine A _ _ ph ?_;clear A g oR c0 f0 c1 f1 c2 f2 pd;intro pZ o g;clear v;have v:=(bm o D9 (aa oX)).trans oX;clear J;have J:=(bm o Y (aa pc)).trans pc;clear K;have K:=(bm o oT (aa pb)).trans pb;clear o pc ph oX pb;obtain⟨V,R⟩:=zE pZ;rw[R] at g v J K⊢;clear R;(try go_simp);refine uO 17 rfl pf.out λK' A=> ?_;obtain⟨pc,oR⟩:=aS K f b (-1);obtain⟨c0,f0⟩:=rowAt K 0 rfl;obtain⟨c1,f1⟩:=rowAt K 1 rfl;obtain⟨c2,f2⟩:=rowAt K 2 rfl;obtain⟨W',pd⟩:=zE (((V.setCell ⟨oT,0,ob⟩ (Z U f)).setCell ⟨oT,1,ob⟩ (Z U b)).setCell ⟨oT,2,ob⟩ (Z U (-1)));go_simp;(try rw[pd]);rw[pd] at pc oR;have oX:=oR.heap v (λe=>by omega);have oY:=oR.heap J (λe=>by omega);have ph:S2 W':=pm.out _ ((oS.out V g).trans (oR.below (oS.out V g).size (λq e=>by omega)));refine A _ _ ph ?_;clear A g oR c0 f0 c1 f1 c2 f2 pd;intro qe o g;clear v;have v:=(bm o D9 (aa oX)).trans oX;clear J;have J:=(bm o Y (aa oY)).trans oY;clear K;have K:=(bm o oT (aa pc)).trans pc;clear o pc ph oX oY;obtain⟨V,R⟩:=zE qe;rw[R] at g v J K⊢;clear R;(try go_simp);refine⟨by kernel_rfl, ?_⟩;go_wp2
    go_meet
    case rel=>exact⟨D9,Y,oT,rfl,rfl,rfl,oS.out V g,((oS.out V g).block D (aa pB.out)).trans pB.out,v,J,K,qq,qr,qs⟩
   ·refine uJ 13 rfl (λK' A=> ?_) pf.out
    go_simp;obtain⟨Y,pj⟩:=zE V.heap.size;(try rw[pj]);have qr:W1.heap.size<=Y:=by rw[<-pj];exact(oS.out V g).size
    have oY:(V.alloc (oB #[Z U 0,Z U 0,Z U 0] 164)).heap[Y]?=oa (oB #[Z U 0,Z U 0,Z U 0] 164 (0,0)):=by rw[<-pj];exact alloc_at _ _
    have yW:oT<Y:=by rw[<-pj];exact aa K
    have pb:=(bt V (oB #[Z U 0,Z U 0,Z U 0] 164) oT (aa K)).trans K;refine A _ _ (pf.out _ _ g ((an _ _).alloc (bl _) _)) ?_;clear A g;intro qv o g;clear K;have K:=(bm o oT (aa pb)).trans pb;have J:=(bm o Y (aa oY)).trans oY;clear o pb oY pj;obtain⟨V,R⟩:=zE qv;rw[R] at g K J⊢;clear R;(try go_simp);refine uO 12 rfl pf.out λK' A=> ?_;go_simp;obtain⟨D9,pi⟩:=zE V.heap.size;(try rw[pi]);have qq:W1.heap.size<=D9:=by rw[<-pi];exact(oS.out V g).size
    have oX:(V.alloc (oB #[Z U 0,Z U 0,Z U 0] 164)).heap[D9]?=oa (oB #[Z U 0,Z U 0,Z U 0] 164 (0,0)):=by rw[<-pi];exact alloc_at _ _
    have zd:oT<D9:=by rw[<-pi];exact aa K
    have pb:=(bt V (oB #[Z U 0,Z U 0,Z U 0] 164) oT (aa K)).trans K;have zc:Y<D9:=by rw[<-pi];exact aa J
    have oY:=(bt V (oB #[Z U 0,Z U 0,Z U 0] 164) Y (aa J)).trans J;refine A _ _ (pf.out _ _ g ((an _ _).alloc (bl _) _)) ?_;clear A g;intro qu o g;clear K;have K:=(bm o oT (aa pb)).trans pb;clear J;have J:=(bm o Y (aa oY)).trans oY;have v:=(bm o D9 (aa oX)).trans oX;clear o pb oY oX pi;obtain⟨V,R⟩:=zE qu;rw[R] at g K J v⊢;clear R;(try go_simp);refine uO 15 rfl pf.out λK' A=> ?_;obtain⟨pc,oR⟩:=aS v f d (-1);obtain⟨c0,f0⟩:=rowAt v 0 rfl;obtain⟨c1,f1⟩:=rowAt v 1 rfl;obtain⟨c2,f2⟩:=rowAt v 2 rfl;obtain⟨W',pd⟩:=zE (((V.setCell ⟨D9,0,ob⟩ (Z U f)).setCell ⟨D9,1,ob⟩ (Z U d)).setCell ⟨D9,2,ob⟩ (Z U (-1)));go_simp;(try rw[pd]);rw[pd] at pc oR;have oY:=oR.heap J (λe=>by omega);have pb:=oR.heap K (λe=>by omega);have ph:S2 W':=pm.out _ ((oS.out V g).trans (oR.below (oS.out V g).size (λq e=>by omega)));refine A _ _ ph ?_;clear A g oR c0 f0 c1 f1 c2 f2 pd;intro pT o g;clear v;have v:=(bm o D9 (aa pc)).trans pc;clear J;have J:=(bm o Y (aa oY)).trans oY;clear K;have K:=(bm o oT (aa pb)).trans pb;clear o pc ph oY pb;obtain⟨V,R⟩:=zE pT;rw[R] at g v J K⊢;clear R;(try go_simp);refine uO 16 rfl pf.out λK' A=> ?_;obtain⟨pc,oR⟩:=aS J f a (-1);obtain⟨c0,f0⟩:=rowAt J 0 rfl;obtain⟨c1,f1⟩:=rowAt J 1 rfl;obtain⟨c2,f2⟩:=rowAt J 2 rfl;obtain⟨W',pd⟩:=zE (((V.setCell ⟨Y,0,ob⟩ (Z U f)).setCell ⟨Y,1,ob⟩ (Z U a)).setCell ⟨Y,2,ob⟩ (Z U (-1)));go_simp;(try rw[pd]);rw[pd] at pc oR;have oX:=oR.heap v (λe=>by omega);have pb:=oR.heap K (λe=>by omega);have ph:S2 W':=pm.out _ ((oS.out V g).trans (oR.below (oS.out V g).size (λq e=>by omega)));refine A _ _ ph ?_;clear A g oR c0 f0 c1 f1 c2 f2 pd;intro pZ o g;clear v;have v:=(bm o D9 (aa oX)).trans oX;clear J;have J:=(bm o Y (aa pc)).trans pc;clear K;have K:=(bm o oT (aa pb)).trans pb;clear o pc ph oX pb;obtain⟨V,R⟩:=zE pZ;rw[R] at g v J K⊢;clear R;(try go_simp);refine uO 17 rfl pf.out λK' A=> ?_;obtain⟨pc,oR⟩:=aS K f b (-1);obtain⟨c0,f0⟩:=rowAt K 0 rfl;obtain⟨c1,f1⟩:=rowAt K 1 rfl;obtain⟨c2,f2⟩:=rowAt K 2 rfl;obtain⟨W',pd⟩:=zE (((V.setCell ⟨oT,0,ob⟩ (Z U f)).setCell ⟨oT,1,ob⟩ (Z U b)).setCell ⟨oT,2,ob⟩ (Z U (-1)));go_simp;(try rw[pd]);rw[pd] at pc oR;have oX:=oR.heap v (λe=>by omega);have oY:=oR.heap J (λe=>by omega);have ph:S2 W':=pm.out _ ((oS.out V g).trans (oR.below (oS.out V g).size (λq e=>by omega)));refine A _ _ ph ?_;clear A g oR c0 f0 c1 f1 c2 f2 pd;intro qe o g;clear v;have v:=(bm o D9 (aa oX)).trans oX;clear J;have J:=(bm o Y (aa oY)).trans oY;clear K;have K:=(bm o oT (aa pc)).trans pc;clear o pc ph oX oY;obtain⟨V,R⟩:=zE qe;rw[R] at g v J K⊢;clear R;(try go_simp);refine⟨by kernel_rfl, ?_⟩;go_wp2
    go_meet
    case rel=>exact⟨D9,Y,oT,rfl,rfl,rfl,oS.out V g,((oS.out V g).block D (aa pB.out)).trans pB.out,v,J,K,qq,qr,qs⟩
 case rest=>
  obtain⟨D9,Y,oT,rfl,rfl,rfl,hN⟩:=hcut;have vt:bj w.heap.size w wc:=yq.out.trans (hN.below.mono yq.out.size);have hP:=H.out.grow vt;have i0:=(rowAt hN.ins 0 (u:= Z U op) (by rw[<-ta.out];rfl)).1;have tc:∀k,w.heap.size<=k->tg k= .no:=λk hk=>ea λe=>by have:=(H.out.lo k e).2;omega
  have vc:=A1.out;have zj:=tc D9 (by have:=hN.l9;omega);have zp:=tc Y (by have:=hN.l10;omega);have zr:=tc oT (by have:=hN.l11;omega);have zv:=tc D (by omega);have HN:=zH hN;have qT:=zH vt;have HP:=zH hP;have vf:=zH zj;have vh:=zH zp;have An:=zH zr;have te:=zH zv;clear hN vt hP tc vc zj zp zr zv g rl vd yp pk pf pm oS
  by_cases vu:op=12
  ·subst vu
   obtain⟨j0,tf,th,ti,tj⟩:=iu vV;have t0:wc.cell? ⟨T,2,ob⟩=oa (ot s.siA p.St.length s.siK):=(rowAt HP.out.row 2 rfl).1;have A6:T<wc.heap.size:=aa HP.out.row;obtain⟨N,hN⟩:=zE wc.heap.size;have As:∀k,(bk s.siA p.St.length s.siK).ownBlock=oa k->k≠T/\tg k= .si/\k<wc.heap.size:=λk hk=>⟨λe=>by have:=HP.out.t5 k hk;rw[e,HP.out.t1] at this;simp at this,HP.out.t5 k hk,(HP.out.srow.lt k hk).2⟩
   have Bk:=zH As;have Bm:B<=wc.heap.size:=HP.out.base;clear As
   go_upto_region 6 with(at_builtin;refine dZ rfl (.tmp 36) (.tmp 40) 62 rfl B 67 j0 _ 2 16 mL tf th ti tj rfl (by decide) _ p.St.length (p.St.flatMap Ay) rfl HP.out.srow N #[Z U f,Z U k] hN.symm rfl rfl (by simp[bp]) (by unfold cX;omega) (by omega) (by omega) ?_;intro v9 w9 ra pp At;obtain⟨rx,c9,tl⟩:=au ra;subst tl;have v:=pp.heap HP.out.row (λe=>(Bk.out T e).1 rfl);obtain⟨t9,Bx⟩:=rowAt v 2 (u:= ot s.siA p.St.length s.siK) rfl;have By:=zH ra;have BE:=zH pp;have BT:=zH At;clear ra pp At v)
   have Ax:=HP.out.sited (q:=(f,k)) (by omega) (Ext.refl _ _) BE.out By.out BT.out;obtain⟨W9,AD⟩:=zE (w9.setCell ⟨T,2,ob⟩ (ot rx (p.St.length+1) c9));rw[AD] at Ax⊢;obtain⟨Cg,s5,vx,vy,AE⟩:=Ax;obtain⟨p5,sT⟩:=zE ({p with St:=p.St++[(f,k)]}:PS);rw[sT] at vx;obtain⟨n,hn⟩:=zE p.St.length;have AF:p5.St.length=n+1:=by rw[<-sT,<-hn];simp
   have v:=vy.heap HN.out.r9 (λe=>e.1 vf.out);obtain⟨V,R⟩:=zE W9.drew;have po:bj W9.heap.size W9 V:=by rw[<-R];exact(an _ _).drew
   have pL:=vx.grow po;have AG:=(po.block D9 (aa v)).trans v;have BY:cr (Ext (λk=>tg k≠ .no/\¬ZA (tg k)) wc V):=vy.trans (Ext.of_below_size (M:=λ_=>fW) po) (λ_ h=>h.elim);have B4:=zH AE;obtain⟨S5,px⟩:=zE ((λW=>W=V):World->Prop);have g:S5 V:=by rw[<-px]
   have pk:cr (∀W,S5 W->W.cell? ⟨T,2,ob⟩=oa (ot s5.siA (n+1) s5.siK)/\T<W.heap.size):=λW hW=>by
    rw[<-px] at hW;have:V.cell? ⟨T,2,ob⟩=oa (ot s5.siA p5.St.length s5.siK):=(rowAt pL.row 2 rfl).1;rw[AF] at this;rw[hW];exact⟨this,aa pL.row⟩
   have tm:cr (∀W,S5 W->∀j u,(#[Z U f,Z U d,Z U (-1)]:cC bo).toList[j]?=oa u->W.cell? ((⟨D9,0,ob⟩:Addr).add j)=oa u):=λW hW=>by
    rw[<-px] at hW;rw[hW];exact aG AG
   have B5:=zH (ja V pL (n1:=f) (n2:=d) (n3:= -1) (bH HX.out.1 HX.out.2.2.1) (x:=n) (by omega) (by rw[<-sT];show p.H.length+1<=_;omega) (by rw[<-sT];show p.td.length+1<=_;omega));have pn:=zH pL;have qk:=zH R;have B6:=zH sT;have B7:=zH hn;have Ch:IntKind.i64.wrap (n:ct)=(n:ct):=by rw[IntKind.wrap_i64];omega
   clear t9 Bx AD vx vy AE AF v R po pL AG px t0 A6 Bm i0 hn sT;refine ai 8 S5 (by kernel_rfl) ?_;rw[qk.out];refine zT 0 rfl pk.out ?_;(try go_simp);refine zL 1 rfl 164 ⟨D9,0,ob⟩ tm.out cq ?_;(try go_simp);refine zT 2 rfl pk.out ?_;(try go_simp);refine zT 3 rfl pk.out ?_;(try go_simp);refine zT 4 rfl pk.out ?_;(try go_simp);refine zT 5 rfl pk.out ?_;(try go_simp);refine zT 6 rfl pk.out ?_;(try go_simp);refine zT 7 rfl pk.out ?_;(try go_simp);refine zK rfl λK' A=> ?_;go_simp;go_at_call 120;refine B5.out.mono ?_;rintro e w2 ⟨rfl,tn⟩;have wa:=zH tn;clear tn;refine A _ _ ?_;clear A;refine⟨by kernel_rfl, ?_⟩;go_wp2
   go_end0
   refine⟨rfl,p5.add (aX f d) n, ?_, ?_⟩
   ·rw[<-B6.out,<-B7.out]
    exact Bz p f k _ rfl
   ·refine aQ.below qT.out ?_
    exact(aQ.step BY.out B4.out wa.out).weak λ_ h=>h.elim
  have Ci:((op:ct)==12)=od:=hU vu
  by_cases h9:op=9
  ·subst h9
   obtain⟨a0,a1,a2⟩:=(show wc.cell? ⟨Y,0,ob⟩=oa (Z U f)/\wc.cell? ⟨Y,1,ob⟩=oa (Z U a)/\wc.cell? ⟨Y,2,ob⟩=oa (Z U (-1)) from⟨(rowAt HN.out.r10 0 rfl).1,(rowAt HN.out.r10 1 rfl).1,(rowAt HN.out.r10 2 rfl).1⟩)
   obtain⟨b0,b1,b2⟩:=(show wc.cell? ⟨D9,0,ob⟩=oa (Z U f)/\wc.cell? ⟨D9,1,ob⟩=oa (Z U d)/\wc.cell? ⟨D9,2,ob⟩=oa (Z U (-1)) from⟨(rowAt HN.out.r9 0 rfl).1,(rowAt HN.out.r9 1 rfl).1,(rowAt HN.out.r9 2 rfl).1⟩)
   have rB:=zH (cZ wc HP.out (n1:=f) (n2:=a) (n3:= -1) (m1:=f) (m2:=d) (m3:= -1) (bH HX.out.1 HX.out.2.2.2.1) (bH HX.out.1 HX.out.2.2.1) (λn y h=>cv (vr.out n y h) (by decide)) (by omega) (by omega) (by omega))
   go_wp2_with (go_at_call 119;refine rB.out.mono ?_;rintro e w2 ⟨rfl,p',AH,tn⟩;have wa:=zH tn;have B8:=zH AH;clear tn AH)
   go_end0
   refine⟨rfl,p', ?_, ?_⟩
   ·exact sj (by simp) (by simp) (by simp) ⟨p',B8.out,rfl⟩
   ·exact aQ.below qT.out (wa.out.weak λ_ h=>h.elim)
  have e9:((op:ct)==9)=od:=hU h9
  by_cases wb:op=10
  ·subst wb
   have hn:eB (f,a,-1):=bH HX.out.1 HX.out.2.2.2.1
   go_upto_region 10 with(fail)
   obtain⟨j0,tf,th,ti,tj⟩:=iu uq;obtain⟨V,R⟩:=zE wc.drew;have po:bj wc.heap.size wc V:=by rw[<-R];exact(an _ _).drew
   have pL:=HP.out.grow po;have rI:=(po.block D (aa HN.out.ins)).trans HN.out.ins;have rK:=(po.block Y (aa HN.out.r10)).trans HN.out.r10;have rL:=(po.block D9 (aa HN.out.r9)).trans HN.out.r9;obtain⟨rb,rc⟩:=zE (wT m HM FM GM s p.St.length p.td.length);have rN:V.heap[T]?=oa (oB rb 148 (0,0)):=by rw[<-rc];exact pL.row
   have tp:rb[5]?=oa (.map (oa GM)):=by rw[<-rc];rfl
   obtain⟨S2,pH⟩:=zE ((λw'=>w'.heap[T]?=oa (oB rb 148 (0,0))/\w'.heap[D]?=oa (oB ic 42 (0,0))/\w'.heap[Y]?=oa (oB #[Z U f,Z U a,Z U (-1)] 164 (0,0))/\w'.heap[D9]?=oa (oB #[Z U f,Z U d,Z U (-1)] 164 (0,0))):World->Prop);have oS:cr (∀W,W.heap[T]?=oa (oB rb 148 (0,0))->W.heap[D]?=oa (oB ic 42 (0,0))->W.heap[Y]?=oa (oB #[Z U f,Z U a,Z U (-1)] 164 (0,0))->W.heap[D9]?=oa (oB #[Z U f,Z U d,Z U (-1)] 164 (0,0))->S2 W):=λW a b c d=>by rw[<-pH];exact⟨a,b,c,d⟩
   have pw:cr (∀w,S2 w->w.cell? ⟨T,5,ob⟩=oa (.map (oa GM))/\T<w.heap.size/\D<w.heap.size/\w.cell? ⟨D,4,ob⟩=oa (Z U ff)):=λw hw=>by rw[<-pH] at hw;exact⟨(rowAt hw.1 5 tp).1,aa hw.1,aa hw.2.1,(rowAt hw.2.1 4 (by rw[<-ta.out];rfl)).1⟩
   have tr:cr (∀W,S2 W->∀j u,(#[Z U f,Z U a,Z U (-1)]:cC bo).toList[j]?=oa u->W.cell? ((⟨Y,0,ob⟩:Addr).add j)=oa u):=λW hW=>by
    rw[<-pH] at hW;exact aG hW.2.2.1
   have tt:cr (∀W,S2 W->∀j u,(#[Z U f,Z U d,Z U (-1)]:cC bo).toList[j]?=oa u->W.cell? ((⟨D9,0,ob⟩:Addr).add j)=oa u):=λW hW=>by
    rw[<-pH] at hW;exact aG hW.2.2.2
   have we:S2 V:=oS.out _ rN rI rK rL;have rS:=zH rN;have wg:=zH rc;have pB:=zH rI;have tv:=zH rK;have tz:=zH rL;have pn:=zH pL;have qk:=zH R;have wi:=zH po;obtain⟨ao,cap,tA,pS,tB⟩:=pL.gs _ hn;have re:=zH tA;have wj:=zH pS;have wk:=zH tB;have B9:(p.gl (f,a,-1)).length<=400:=by
    unfold PS.gl;rw[dd];exact cv (gR _ _) lG
   clear pH rN tp rc rI rK rL pL R po tA pS tB;refine ai 14 S2 (by kernel_rfl) ?_;rw[qk.out];refine zT 0 rfl pw.out ?_;(try go_simp);refine zT 1 rfl pw.out ?_;(try go_simp);refine zT 2 rfl pw.out ?_;(try go_simp);refine zT 3 rfl pw.out ?_;(try go_simp);refine zL 4 rfl 164 ⟨Y,0,ob⟩ tr.out cq ?_;(try go_simp);refine zT 5 rfl pw.out ?_;(try go_simp);refine zT 6 rfl pw.out ?_;(try go_simp);refine zL 7 rfl 164 ⟨D9,0,ob⟩ tt.out cq ?_;(try go_simp);refine zT 8 rfl pw.out ?_;(try go_simp);refine zO 9 rfl λK' A=> ?_;go_simp;obtain⟨G,hG⟩:=zE V.heap.size;obtain⟨W8,rh⟩:=zE (V.alloc (oB #[Z U ff,Z U f,Z U d,Z U (-1),oy od] 213));(try rw[hG]);(try rw[rh]);have py:bj V.heap.size V W8:=by rw[<-rh];exact(an _ _).alloc (bl _) _
   have tD:W8.heap[G]?=oa (oB #[Z U ff,Z U f,Z U d,Z U (-1),oy od] 213 (0,0)):=by rw[<-rh,<-hG];exact alloc_at _ _
   have se:=(py.block T (aa rS.out)).trans rS.out;have sf:=(py.block D (aa pB.out)).trans pB.out;have sg:=(py.block Y (aa tv.out)).trans tv.out;have sk:=(py.block D9 (aa tz.out)).trans tz.out;have h8:=pn.out.grow py;refine A _ _ (oS.out _ se sf sg sk) ?_;clear A;(try go_simp);refine zO 10 rfl λK' A=> ?_;obtain⟨c0,q0⟩:=h8.gm;obtain⟨W9,st,rj,pp,sn,tE⟩:=q0.entry iD mu (om W8) hn;unfold gI at rj;rw[re.out] at rj;go_simp;(try simp only[rj]);(try go_simp);have Ca:GM<V.heap.size:=(pn.out.lo GM (by rw[pn.out.t4];simp)).2;have wl:¬T=GM:=λe=>by have:=pn.out.t1;rw[e,pn.out.t4] at this;simp at this
   have wn:¬D=GM:=λe=>by have:=te.out;rw[e,pn.out.t4] at this;simp at this
   have ws:¬Y=GM:=λe=>by have:=vh.out;rw[e,pn.out.t4] at this;simp at this
   have wx:¬D9=GM:=λe=>by have:=vf.out;rw[e,pn.out.t4] at this;simp at this
   have pD:∀q,(bk ao (p.gl (f,a,-1)).length cap).ownBlock=oa q->q≠T/\q≠GM/\q<V.heap.size/\q≠D/\q≠Y/\q≠D9:=λq hq=>by
    have z:=wk.out q (by rw[re.out];exact hq);have qn:∀x,tg x≠ .gl (f,a,-1)->q≠x:=λx h e=>h (by rw[<-e];exact z);exact⟨qn _ (by rw[pn.out.t1];simp),qn _ (by rw[pn.out.t4];simp),(pn.out.lo q (by rw[z];simp)).2,qn _ (by rw[te.out];simp),qn _ (by rw[vh.out];simp),qn _ (by rw[vf.out];simp)⟩
   have so:=pp.heap se wl;have sq:=pp.heap sf wn;have pi:=pp.heap sg ws;have sr:=pp.heap sk wx;have pS:=wj.out;rw[re.out] at pS;have tG:=af pS (Ext.of_below_size (M:=λ_=>fW) py) (λ_ _ h=>h);have ra:=af tG pp (λq hq e=>(pD q hq).2.1 e);have tM:=pp.heap tD (λe=>by omega);have tP:S2 W9:=oS.out _ so sq pi sr;refine A _ _ tP ?_;clear A;(try go_simp);refine zT 11 rfl pw.out ?_;(try go_simp);refine zT 13 rfl pw.out ?_;(try go_simp);refine zO 12 rfl λK' A=> ?_;have tR:B<=W9.heap.size:=cv pn.out.base (cv py.size pp.size);have tS:(p.gl (f,a,-1)).length+1<=cX:=by unfold cX;omega
   refine ay (.tmp 66) (.tmp 71) 211 rfl B 213 j0 _ 5 40 underlying211 tf th ti tj rfl (by decide) (ot ao (p.gl (f,a,-1)).length cap) (p.gl (f,a,-1)).length ((p.gl (f,a,-1)).flatMap AY) rfl ra (oa ⟨G,0,ob⟩) 1 1 [Z U ff,Z U f,Z U d,Z U (-1),oy od] rfl rfl (λh=>by cases h) (λad xa j u hu=>by
    obtain rfl:(⟨G,0,ob⟩:Addr)=ad:=by simpa using xa
    rw[cI,cJ,ci _ _ _ _ _ _ tM];simpa using hu) (by simp[bp]) tS (by omega) tR ?_
   intro Cb tU sx tW sy;obtain⟨rx,c9,tl⟩:=au sx;subst tl;have pN:Ext (λq=>(bk ao (p.gl (f,a,-1)).length cap).ownBlock=oa q) W9 tU:=Ext.of_grown tW (λq hq=> .inl hq);have ua:=pN.heap so (λe=>(pD _ e).1 rfl);have ub:=pN.heap sq (λe=>(pD _ e).2.2.2.1 rfl);have pj:=pN.heap pi (λe=>(pD _ e).2.2.2.2.1 rfl);have uc:=pN.heap sr (λe=>(pD _ e).2.2.2.2.2 rfl);refine A _ _ (oS.out _ ua ub pj uc) ?_;clear A;(try go_simp);refine zK rfl λK' A=> ?_;obtain⟨xd,ud,ue,sB⟩:=tE tU (ot rx ((p.gl (f,a,-1)).length+1) c9) (pN.block GM sn.lt (λe=>(pD _ e).2.1 rfl));go_simp;(try simp only[ud]);(try go_simp);refine A _ _ ?_;clear A ud rj tE;refine⟨by kernel_rfl, ?_⟩;have sE:Ext (λq=>q=GM\/(bk ao (p.gl (f,a,-1)).length cap).ownBlock=oa q) V W9:=Ext.trans (Ext.of_below_size (M:=λq=>q=GM\/(bk ao (p.gl (f,a,-1)).length cap).ownBlock=oa q) py) (pp.mono (λq e=> .inl e)) (λq e=> .inl e);have ur:Ext (λq=>q=GM\/(bk ao (p.gl (f,a,-1)).length cap).ownBlock=oa q) V xd:=(sE.trans (pN.mono (λq e=> .inr e)) (λq e=> .inl e)).trans (sB.mono (λq e=> .inl e)) (λq e=> .inl e);have us:∀q,(bk rx ((p.gl (f,a,-1)).length+1) c9).ownBlock=oa q->(bk ao (p.gl (f,a,-1)).length cap).ownBlock=oa q\/V.heap.size<=q:=λq hq=>by
    rcases sy q hq with z|z
    ·exact .inl z
    ·exact .inr (cv sE.size z)
   have uv:=af sx sB (λq hq e=>by
    rcases sy q hq with z|z
    ·exact(pD q z).2.1 e
    ·have:=sn.lt
     omega)
   have rk:=zH (pn.out.gotten (b:=(ff,(f,d,-1),od)) hn re.out ur ue uv us);clear tP ua ub pj uc pN tW sy tS tR tM ra tG so sq pi sr pD pS pp sn q0 h8 se sf sg sk tD py rh hG we tt tr pw oS rS wg sE ur us uv sx sB ue;go_wp2
   go_end0
   refine⟨rfl,_,zm p f k _ (ff,(f,d,-1),od) (by simp) (by simp) (by simp) (by simp) (by simp[kW,aX]), ?_⟩;exact aQ.below qT.out (aQ.below wi.out rk.out)
  have Cj:((op:ct)==10)=od:=hU wb
  by_cases xf:op=11
  ·subst xf
   have hn:eB (f,a,-1):=bH HX.out.1 HX.out.2.2.2.1
   go_upto_region 12 with(fail)
   obtain⟨j0,tf,th,ti,tj⟩:=iu uq;obtain⟨V,R⟩:=zE wc.drew;have po:bj wc.heap.size wc V:=by rw[<-R];exact(an _ _).drew
   have pL:=HP.out.grow po;have rI:=(po.block D (aa HN.out.ins)).trans HN.out.ins;have rK:=(po.block Y (aa HN.out.r10)).trans HN.out.r10;have rL:=(po.block oT (aa HN.out.r11)).trans HN.out.r11;obtain⟨rb,rc⟩:=zE (wT m HM FM GM s p.St.length p.td.length);have rN:V.heap[T]?=oa (oB rb 148 (0,0)):=by rw[<-rc];exact pL.row
   have tp:rb[5]?=oa (.map (oa GM)):=by rw[<-rc];rfl
   obtain⟨S2,pH⟩:=zE ((λw'=>w'.heap[T]?=oa (oB rb 148 (0,0))/\w'.heap[D]?=oa (oB ic 42 (0,0))/\w'.heap[Y]?=oa (oB #[Z U f,Z U a,Z U (-1)] 164 (0,0))/\w'.heap[oT]?=oa (oB #[Z U f,Z U b,Z U (-1)] 164 (0,0))):World->Prop);have oS:cr (∀W,W.heap[T]?=oa (oB rb 148 (0,0))->W.heap[D]?=oa (oB ic 42 (0,0))->W.heap[Y]?=oa (oB #[Z U f,Z U a,Z U (-1)] 164 (0,0))->W.heap[oT]?=oa (oB #[Z U f,Z U b,Z U (-1)] 164 (0,0))->S2 W):=λW a b c d=>by rw[<-pH];exact⟨a,b,c,d⟩
   have pw:cr (∀w,S2 w->w.cell? ⟨T,5,ob⟩=oa (.map (oa GM))/\T<w.heap.size/\D<w.heap.size/\w.cell? ⟨D,4,ob⟩=oa (Z U ff)):=λw hw=>by rw[<-pH] at hw;exact⟨(rowAt hw.1 5 tp).1,aa hw.1,aa hw.2.1,(rowAt hw.2.1 4 (by rw[<-ta.out];rfl)).1⟩
   have tr:cr (∀W,S2 W->∀j u,(#[Z U f,Z U a,Z U (-1)]:cC bo).toList[j]?=oa u->W.cell? ((⟨Y,0,ob⟩:Addr).add j)=oa u):=λW hW=>by
    rw[<-pH] at hW;exact aG hW.2.2.1
   have tt:cr (∀W,S2 W->∀j u,(#[Z U f,Z U b,Z U (-1)]:cC bo).toList[j]?=oa u->W.cell? ((⟨oT,0,ob⟩:Addr).add j)=oa u):=λW hW=>by
    rw[<-pH] at hW;exact aG hW.2.2.2
   have we:S2 V:=oS.out _ rN rI rK rL;have rS:=zH rN;have wg:=zH rc;have pB:=zH rI;have tv:=zH rK;have tz:=zH rL;have pn:=zH pL;have qk:=zH R;have wi:=zH po;obtain⟨ao,cap,tA,pS,tB⟩:=pL.gs _ hn;have re:=zH tA;have wj:=zH pS;have wk:=zH tB;have B9:(p.gl (f,a,-1)).length<=400:=by
    unfold PS.gl;rw[dd];exact cv (gR _ _) lG
   clear pH rN tp rc rI rK rL pL R po tA pS tB;refine ai 14 S2 (by kernel_rfl) ?_;rw[qk.out];refine zT 0 rfl pw.out ?_;(try go_simp);refine zT 1 rfl pw.out ?_;(try go_simp);refine zT 2 rfl pw.out ?_;(try go_simp);refine zT 3 rfl pw.out ?_;(try go_simp);refine zL 4 rfl 164 ⟨Y,0,ob⟩ tr.out cq ?_;(try go_simp);refine zT 5 rfl pw.out ?_;(try go_simp);refine zT 6 rfl pw.out ?_;(try go_simp);refine zL 7 rfl 164 ⟨oT,0,ob⟩ tt.out cq ?_;(try go_simp);refine zT 8 rfl pw.out ?_;(try go_simp);refine zO 9 rfl λK' A=> ?_;go_simp;obtain⟨G,hG⟩:=zE V.heap.size;obtain⟨W8,rh⟩:=zE (V.alloc (oB #[Z U ff,Z U f,Z U b,Z U (-1),oy oc] 213));(try rw[hG]);(try rw[rh]);have py:bj V.heap.size V W8:=by rw[<-rh];exact(an _ _).alloc (bl _) _
   have tD:W8.heap[G]?=oa (oB #[Z U ff,Z U f,Z U b,Z U (-1),oy oc] 213 (0,0)):=by rw[<-rh,<-hG];exact alloc_at _ _
   have se:=(py.block T (aa rS.out)).trans rS.out;have sf:=(py.block D (aa pB.out)).trans pB.out;have sg:=(py.block Y (aa tv.out)).trans tv.out;have sk:=(py.block oT (aa tz.out)).trans tz.out;have h8:=pn.out.grow py;refine A _ _ (oS.out _ se sf sg sk) ?_;clear A;(try go_simp);refine zO 10 rfl λK' A=> ?_;obtain⟨c0,q0⟩:=h8.gm;obtain⟨W9,st,rj,pp,sn,tE⟩:=q0.entry iD mu (om W8) hn;unfold gI at rj;rw[re.out] at rj;go_simp;(try simp only[rj]);(try go_simp);have Ca:GM<V.heap.size:=(pn.out.lo GM (by rw[pn.out.t4];simp)).2;have wl:¬T=GM:=λe=>by have:=pn.out.t1;rw[e,pn.out.t4] at this;simp at this
   have wn:¬D=GM:=λe=>by have:=te.out;rw[e,pn.out.t4] at this;simp at this
   have ws:¬Y=GM:=λe=>by have:=vh.out;rw[e,pn.out.t4] at this;simp at this
   have wx:¬oT=GM:=λe=>by have:=An.out;rw[e,pn.out.t4] at this;simp at this
   have pD:∀q,(bk ao (p.gl (f,a,-1)).length cap).ownBlock=oa q->q≠T/\q≠GM/\q<V.heap.size/\q≠D/\q≠Y/\q≠oT:=λq hq=>by
    have z:=wk.out q (by rw[re.out];exact hq);have qn:∀x,tg x≠ .gl (f,a,-1)->q≠x:=λx h e=>h (by rw[<-e];exact z);exact⟨qn _ (by rw[pn.out.t1];simp),qn _ (by rw[pn.out.t4];simp),(pn.out.lo q (by rw[z];simp)).2,qn _ (by rw[te.out];simp),qn _ (by rw[vh.out];simp),qn _ (by rw[An.out];simp)⟩
   have so:=pp.heap se wl;have sq:=pp.heap sf wn;have pi:=pp.heap sg ws;have sr:=pp.heap sk wx;have pS:=wj.out;rw[re.out] at pS;have tG:=af pS (Ext.of_below_size (M:=λ_=>fW) py) (λ_ _ h=>h);have ra:=af tG pp (λq hq e=>(pD q hq).2.1 e);have tM:=pp.heap tD (λe=>by omega);have tP:S2 W9:=oS.out _ so sq pi sr;refine A _ _ tP ?_;clear A;(try go_simp);refine zT 11 rfl pw.out ?_;(try go_simp);refine zT 13 rfl pw.out ?_;(try go_simp);refine zO 12 rfl λK' A=> ?_;have tR:B<=W9.heap.size:=cv pn.out.base (cv py.size pp.size);have tS:(p.gl (f,a,-1)).length+1<=cX:=by unfold cX;omega
   refine ay (.tmp 82) (.tmp 87) 211 rfl B 213 j0 _ 5 40 underlying211 tf th ti tj rfl (by decide) (ot ao (p.gl (f,a,-1)).length cap) (p.gl (f,a,-1)).length ((p.gl (f,a,-1)).flatMap AY) rfl ra (oa ⟨G,0,ob⟩) 1 1 [Z U ff,Z U f,Z U b,Z U (-1),oy oc] rfl rfl (λh=>by cases h) (λad xa j u hu=>by
    obtain rfl:(⟨G,0,ob⟩:Addr)=ad:=by simpa using xa
    rw[cI,cJ,ci _ _ _ _ _ _ tM];simpa using hu) (by simp[bp]) tS (by omega) tR ?_
   intro Cb tU sx tW sy;obtain⟨rx,c9,tl⟩:=au sx;subst tl;have pN:Ext (λq=>(bk ao (p.gl (f,a,-1)).length cap).ownBlock=oa q) W9 tU:=Ext.of_grown tW (λq hq=> .inl hq);have ua:=pN.heap so (λe=>(pD _ e).1 rfl);have ub:=pN.heap sq (λe=>(pD _ e).2.2.2.1 rfl);have pj:=pN.heap pi (λe=>(pD _ e).2.2.2.2.1 rfl);have uc:=pN.heap sr (λe=>(pD _ e).2.2.2.2.2 rfl);refine A _ _ (oS.out _ ua ub pj uc) ?_;clear A;(try go_simp);refine zK rfl λK' A=> ?_;obtain⟨xd,ud,ue,sB⟩:=tE tU (ot rx ((p.gl (f,a,-1)).length+1) c9) (pN.block GM sn.lt (λe=>(pD _ e).2.1 rfl));go_simp;(try simp only[ud]);(try go_simp);refine A _ _ ?_;clear A ud rj tE;refine⟨by kernel_rfl, ?_⟩;have sE:Ext (λq=>q=GM\/(bk ao (p.gl (f,a,-1)).length cap).ownBlock=oa q) V W9:=Ext.trans (Ext.of_below_size (M:=λq=>q=GM\/(bk ao (p.gl (f,a,-1)).length cap).ownBlock=oa q) py) (pp.mono (λq e=> .inl e)) (λq e=> .inl e);have ur:Ext (λq=>q=GM\/(bk ao (p.gl (f,a,-1)).length cap).ownBlock=oa q) V xd:=(sE.trans (pN.mono (λq e=> .inr e)) (λq e=> .inl e)).trans (sB.mono (λq e=> .inl e)) (λq e=> .inl e);have us:∀q,(bk rx ((p.gl (f,a,-1)).length+1) c9).ownBlock=oa q->(bk ao (p.gl (f,a,-1)).length cap).ownBlock=oa q\/V.heap.size<=q:=λq hq=>by
    rcases sy q hq with z|z
    ·exact .inl z
    ·exact .inr (cv sE.size z)
   have uv:=af sx sB (λq hq e=>by
    rcases sy q hq with z|z
    ·exact(pD q z).2.1 e
    ·have:=sn.lt
     omega)
   have rk:=zH (pn.out.gotten (b:=(ff,(f,b,-1),oc)) hn re.out ur ue uv us);clear tP ua ub pj uc pN tW sy tS tR tM ra tG so sq pi sr pD pS pp sn q0 h8 se sf sg sk tD py rh hG we tt tr pw oS rS wg sE ur us uv sx sB ue;go_wp2
   go_end0
   refine⟨rfl,_,zm p f k _ (ff,(f,b,-1),oc) (by simp) (by simp) (by simp) (by simp) (by simp[kW,aX]), ?_⟩;exact aQ.below qT.out (aQ.below wi.out rk.out)
  have Cl:((op:ct)==11)=od:=hU xf
  by_cases xj:op=15
  ·subst xj
   have i7:=(rowAt HN.out.ins 7 (u:= ot ga args.length gc) (by rw[<-ta.out];rfl)).1;have Cm:args.length<=40:=HX.out.2.2.2.2.2.2.2
   go_wp2_with fail
   go_loopw [96] (λc wq=>∃j:bw,j<=args.length/\c= Z U (j:ct)/\∃p',kX (fZ f ff 0 (args.take j)) p p'/\BF j p p'/\aQ ZF T HM FM GM m B tg p' wc wq) (λc _=>args.length-(intOf c).toNat)
   case atStart=>exact⟨0,da _,rfl,p,rfl,⟨by omega,by omega,by omega,vr.out⟩,HP.out.same (an _ _)⟩
   case round=>
    obtain⟨j,hj,rfl,p',ux,rm,Cc⟩:=hrel;obtain⟨tg',s',vi,sL,vj⟩:=Cc;have vm:=sL.heap HN.out.ins (λe=>e.1 te.out);obtain⟨V,R⟩:=zE wr.drew;have po:bj wr.heap.size wr V:=by rw[<-R];exact(an _ _).drew
    obtain⟨S3,rn⟩:=zE ((λW=>bj wr.heap.size wr W):World->Prop);have pm:cr (∀W,bj wr.heap.size wr W->S3 W):=λW hW=>by rw[<-rn];exact hW
    have oS:cr (∀W,S3 W->bj wr.heap.size wr W):=λW hW=>by rw[<-rn] at hW;exact hW
    have qt:S3 V:=pm.out _ po;have pk:cr (∀W,S3 W->W.cell? ⟨D,4,ob⟩=oa (Z U ff)/\D<W.heap.size):=λW hW=>by
     have hr:=((oS.out W hW).block D (aa vm)).trans vm;exact⟨(rowAt hr 4 (by rw[<-ta.out];rfl)).1,aa hr⟩
    have AI:=rm.f;have AK:=rm.h;have AM:=rm.t
    by_cases xl:j<args.length
    ·obtain⟨y,hy⟩:∃y,args[j]?=oa y:=⟨_,ce xl⟩
     have Cn:(j:ct)<(args.length:ct):=by omega
     have AN:=A3.out.below (w':=wr) ((vq.out.trans (qT.out.mono vq.out.size)).trans (sL.below (cv vq.out.size qT.out.size) (λk e=>cv hB (HP.out.lo k e.1).1)));obtain⟨ag,Co,rfl,Cp,AS⟩:=AN (λe=>by rw[e] at xl;simp at xl);have Cq:=AS j y hy;have AT:iI y:=HX.out.2.2.2.2.2.2.1 rfl y (cA hy);have rl:=zH (λW=>aT f y W);have vd:=zH (λW=>aT ff (j:ct) W);have rB:cr (∀W,S3 W->et ac 119 #[ox (oa ⟨T,0,ob⟩),oA #[Z U f,Z U y,Z U (-1)],oA #[Z U ff,Z U (j:ct),Z U (-1)]] W λe w'=>e= oE (.tuple #[])/\∃pP,yX (aX f y) (aX ff (j:ct)) p' pP/\aQ ZF T HM FM GM m B tg' pP W w'):=λW hW=>
      cZ W (vi.grow (oS.out W hW)) (bH HX.out.1 AT) (bH HX.out.2.2.2.2.2.1 (kD (by omega))) (λn z h=>cv (rm.xs n z h) (by decide)) (by omega) (by omega) (by omega)
     have xo:=zH sL;have xp:=zH vj;have xr:=zH ux;have Cd:=zH rm;have HY:=zH hy;have qk:=zH R;clear vi sL vj vm R po rn AI AK AM AS AN AT ux rm hy
     go_upto_region 17 with(fail)
     refine ai 8 S3 (by kernel_rfl) ?_;rw[qk.out];refine zT 0 rfl pk.out ?_;(try go_simp);refine zT 1 rfl pk.out ?_;(try go_simp);refine zT 2 rfl pk.out ?_;(try go_simp);refine zT 4 rfl pk.out ?_;(try go_simp);refine zT 5 rfl pk.out ?_;(try go_simp);refine zT 6 rfl pk.out ?_;(try go_simp);refine zO 3 rfl λK' A=> ?_;go_simp;go_at_call 77;refine(rl.out V).mono ?_;rintro e W5 ⟨rfl,ro⟩;have px:S3 W5:=pm.out _ ((oS.out V qt).trans (ro.mono (oS.out V qt).size));refine A _ _ px ?_;clear A qt ro;simp only[gI,aX];(try go_simp);refine zO 7 rfl λK' A=> ?_;go_simp;go_at_call 77;refine(vd.out W5).mono ?_;rintro e W6 ⟨rfl,AW⟩;have vn:S3 W6:=pm.out _ ((oS.out W5 px).trans (AW.mono (oS.out W5 px).size));refine A _ _ vn ?_;clear A px AW;simp only[gI,aX];(try go_simp);refine zK rfl λK' A=> ?_;go_simp;go_at_call 119;refine(rB.out W6 vn).mono ?_;rintro e w7 ⟨rfl,pP,rr,rv⟩;have rk:=zH rv;have sX:=zH rr;have Ce:=zH (oS.out W6 vn);clear rv rr vn;refine A _ _ ?_;clear A;refine⟨by kernel_rfl, ?_⟩;go_wp2;go_roundw
     case rel=>exact⟨j+1,by omega,by go_num,pP,by
      rw[vZ HY.out];exact kX.snoc sX.out xr.out,Cd.out.flow sX.out,aQ.step xo.out xp.out (aQ.below Ce.out rk.out)⟩
     case measure=>simp[intOf];omega
    ·have Cf:j=args.length:=by omega
     subst Cf;rw[dl] at ux;have v:=sL.heap HN.out.r9 (λe=>e.1 vf.out);have tm:cr (∀W,S3 W->∀j u,(#[Z U f,Z U d,Z U (-1)]:cC bo).toList[j]?=oa u->W.cell? ((⟨D9,0,ob⟩:Addr).add j)=oa u):=λW hW=>aG (((oS.out W hW).block D9 (aa v)).trans v);have rl:=zH (λW=>fJ ff W);have rB:cr (∀W,S3 W->et ac 119 #[ox (oa ⟨T,0,ob⟩),oA #[Z U ff,Z U (-1),Z U (-1)],oA #[Z U f,Z U d,Z U (-1)]] W λe w'=>e= oE (.tuple #[])/\∃pP,yX (ma ff) (aX f d) p' pP/\aQ ZF T HM FM GM m B tg' pP W w'):=λW hW=>
      cZ W (vi.grow (oS.out W hW)) (rZ HX.out.2.2.2.2.2.1) (bH HX.out.1 HX.out.2.2.1) (λn z h=>cv (rm.xs n z h) (by decide)) (by omega) (by omega) (by omega)
     have xo:=zH sL;have xp:=zH vj;have xr:=zH ux;have qk:=zH R;clear vi sL vj vm R po rn AI AK AM ux rm v
     go_upto_region 19 with(fail)
     refine ai 5 S3 (by kernel_rfl) ?_;rw[qk.out];refine zT 0 rfl pk.out ?_;(try go_simp);refine zT 1 rfl pk.out ?_;(try go_simp);refine zT 2 rfl pk.out ?_;(try go_simp);refine zL 4 rfl 164 ⟨D9,0,ob⟩ tm.out cq ?_;(try go_simp);refine zO 3 rfl λK' A=> ?_;go_simp;go_at_call 83;refine(rl.out V).mono ?_;rintro e W5 ⟨rfl,ro⟩;have px:S3 W5:=pm.out _ ((oS.out V qt).trans (ro.mono (oS.out V qt).size));refine A _ _ px ?_;clear A qt ro;simp only[gI,ma];(try go_simp);refine zK rfl λK' A=> ?_;go_simp;go_at_call 119;refine(rB.out W5 px).mono ?_;rintro e w7 ⟨rfl,pP,rr,rv⟩;have rk:=zH rv;have sX:=zH rr;have xt:=zH (oS.out W5 px);clear rv rr px;refine A _ _ ?_;clear A;refine⟨by kernel_rfl, ?_⟩;go_wp2
     go_end0
     refine⟨rfl,pP,sj (by simp) (by simp) (by simp) ?_,aQ.below qT.out ((aQ.step xo.out xp.out (aQ.below xt.out rk.out)).weak λ_ h=>h.elim)⟩;simp only[nJ,cy (by decide:¬((15:ct)=9)),if_true];exact kX.snoc sX.out xr.out
  have Cr:((op:ct)==15)=od:=hU xj
  by_cases xv:op=18
  ·subst xv
   obtain⟨V,R⟩:=zE wc.drew;have po:bj wc.heap.size wc V:=by rw[<-R];exact(an _ _).drew
   obtain⟨S3,rn⟩:=zE ((λW=>bj wc.heap.size wc W):World->Prop);have pm:cr (∀W,bj wc.heap.size wc W->S3 W):=λW hW=>by rw[<-rn];exact hW
   have oS:cr (∀W,S3 W->bj wc.heap.size wc W):=λW hW=>by rw[<-rn] at hW;exact hW
   have qt:S3 V:=pm.out _ po;have pk:cr (∀W,S3 W->wc.heap.size<=W.heap.size):=λW hW=>(oS.out W hW).size;have tm:cr (∀W,S3 W->∀j u,(#[Z U f,Z U a,Z U (-1)]:cC bo).toList[j]?=oa u->W.cell? ((⟨Y,0,ob⟩:Addr).add j)=oa u):=λW hW=>aG (((oS.out W hW).block Y (aa HN.out.r10)).trans HN.out.r10);have rl:=zH (λW=>fJ f W);have rB:cr (∀W,S3 W->et ac 119 #[ox (oa ⟨T,0,ob⟩),oA #[Z U f,Z U a,Z U (-1)],oA #[Z U f,Z U (-1),Z U (-1)]] W λe w'=>e= oE (.tuple #[])/\∃pP,yX (aX f a) (ma f) p pP/\aQ ZF T HM FM GM m B tg pP W w'):=λW hW=>
    cZ W (HP.out.grow (oS.out W hW)) (bH HX.out.1 HX.out.2.2.2.1) (rZ HX.out.1) (λn z h=>cv (vr.out n z h) (by decide)) (by omega) (by omega) (by omega)
   have qk:=zH R;clear R po rn
   go_upto_region 21 with(fail)
   refine ai 4 S3 (by kernel_rfl) ?_;rw[qk.out];refine zT 0 rfl pk.out ?_;(try go_simp);refine zL 1 rfl 164 ⟨Y,0,ob⟩ tm.out cq ?_;(try go_simp);refine zT 2 rfl pk.out ?_;(try go_simp);refine zO 3 rfl λK' A=> ?_;go_simp;go_at_call 83;refine(rl.out V).mono ?_;rintro e W5 ⟨rfl,ro⟩;have px:S3 W5:=pm.out _ ((oS.out V qt).trans (ro.mono (oS.out V qt).size));refine A _ _ px ?_;clear A qt ro;simp only[gI,ma];(try go_simp);refine zK rfl λK' A=> ?_;go_simp;go_at_call 119;refine(rB.out W5 px).mono ?_;rintro e w7 ⟨rfl,pP,rr,rv⟩;have rk:=zH rv;have sX:=zH rr;have xt:=zH (oS.out W5 px);clear rv rr px;refine A _ _ ?_;clear A;refine⟨by kernel_rfl, ?_⟩;go_wp2
   go_end0
   exact⟨rfl,pP,sj (by simp) (by simp) (by simp) ⟨pP,sX.out,rfl⟩,aQ.below qT.out (aQ.below xt.out (rk.out.weak λ_ h=>h.elim))⟩
  have Cs:((op:ct)==18)=od:=hU xv;go_wp2
  go_end0
  refine⟨rfl,p,sj vu wb xf ?_,H.out.same qT.out⟩;simp only[nJ,cy h9,cy xj,cy xv];rfl
end
end
end Go.Proofs.YtjomgckjhcfbgaaGreat
