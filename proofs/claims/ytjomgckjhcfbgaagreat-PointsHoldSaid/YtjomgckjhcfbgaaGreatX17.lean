/- Walks. -/
import Derived.Test.YtjomgckjhcfbgaaGreatX16
set_option maxRecDepth 100000
set_option maxHeartbeats 64000000
set_option linter.all false
namespace Go.Proofs.YtjomgckjhcfbgaaGreat
open Go.RowKit
open Go.Proofs.Tryz renaming prog→ac,underlying164→cD,underlying145→ox,underlying62→pm
open _root_.List renaming getElem?_eq_getElem→am,mem_of_getElem?→ce,length_append→co,mem_singleton→cA,mem_append→cC,take_length→cT,mem_map→dd,length_map→dj,mem_cons→fW,length_filter_le→ke,append_nil→kh,length_range→kA,range→lR,take_succ_cons→nw,mem_range→oc
open Go.RowKit.Below renaming refl→an,heap_alloc→bt,block→cc,mono→m9
open Go.RowKit renaming Below→aq,Hid→ca
open Go renaming heap_setCell_same→aE,cell_of_row→bh,Value→bw,maxLen→dl,Calls→ft,Oper→ij,yielded→im,Program→i8,info_parts→ld,ready_mono→lp,Addr→oA
open _root_ renaming List→bm,Nat→cd,Int→cj,if_neg→cw,Array→cG,if_pos→cI,Option→du,beq_false_of_ne→eM,False→jp,if_true→oB
open _root_.Nat renaming le_refl→bp,le_trans→cE,zero_add→cH,zero_le→cJ
open Go.Value renaming oneCell'→br,slice→bx,string→qT,slice→ra,pointer→rb,bool→re,agg→rh,int→Z
open Go.Addr renaming add_lit→cM
open Go.Region renaming ready→cN,wanted→dt,noSelect→ei,binds→ev,Mode→fy,noSelect_spec→hU,free→ia,free_spec→kf
open _root_.Classical renaming byContradiction→eq
open _root_.Array renaming getElem?_setIfInBounds_ne→gO,replicate→kB,setIfInBounds_comm→mC
open Go.Oper renaming wp→km
open Go.Act renaming put_comm→lO
open Go.Code renaming region→pT
open Go.IntKind renaming i64→qr,i64→U
open _root_.Option renaming some→qt,none→qu
open _root_.Bool renaming true→qv,false→qS
open Go.Obj renaming cells→rj
open Go.Ending renaming returned→rk
open Tryz
def Gw (w w':World):Prop:=aq w.heap.size w w'
theorem Gw.refl (w:World):Gw w w:=an _ _
theorem Gw.trans {w w1 w2:World}(h:Gw w w1)(d:Gw w1 w2):Gw w w2:=Below.trans h (d.mono h.size)
section
variable {P:i8}{ops:cG ij}{Q:Exit->Act->World->Prop}{md:fy}{S:World->Prop}
def EK (P:i8)(v:bw)(w:World):Result Next->Prop
 | .ok (.value u) w'=>u=v/\Gw w w'
 | .ok (.enter f args) w'=>ft P f args w' λe w''=>e= rk v/\Gw w w''
 |_=>jp
def dH (P:i8)(ops:cG ij)(S:World->Prop)(o:ij)(v:bw)(a:Act):Prop:=
 dt o (im ops a.tmps)=qv/\∀w,S w->EK P v w ((execOp a.eval o).run P w)
theorem dH.of_same {o:ij}{v:bw}{a d:Act}(f:dH P ops S o v a)(h:execOp d.eval o=execOp a.eval o)
  (q:dt o (im ops d.tmps)=dt o (im ops a.tmps)):dH P ops S o v d:=by
 unfold dH at*;rw[h,q];exact f
theorem dH.wpOp {i:cd}{o:ij}{v:bw}{a:Act}(y:ops[i]?=qt o)(q:dH P ops S o v a)
  {K:Act->World->Prop}{w:World}(A:S w)(h:∀w',Gw w w'->K (a.put o.dst v) w'):wpOp P ops Q i K a w:=by
 unfold Go.wpOp;simp only[y,q.1,oB,km];refine .inl ?_;have:=q.2 w A;generalize (execOp a.eval o).run P w=r at*;cases r with
 |ok n w'=>
  cases n<;>simp only[EK] at this
  case value u=>obtain⟨rfl,d⟩:=this;exact h _ d
  case enter f args=>
   refine Calls.mono this λe w'' D=> ?_;obtain⟨rfl,d⟩:=D;exact h _ d
 |halt x w'=>exact this.elim
theorem yZ {j:cd}{o q:ij}{v:bw}(hj:ops[j]?=qt q)(rn:o.apart ops q=qv)
  (rr:∀J b,o.op≠ .select J b)(rl:∀J b,q.op≠ .select J b)
  (hQ:∀c a w,Q (.panic c) (a.put o.dst v) w->Q (.panic c) a w){K:Act->World->Prop}{a:Act}{w:World}
  (y:dH P ops S o v a)(h:wpOp P ops Q j K (a.put o.dst v) w):
  wpOp P ops Q j (λa' w'=>dH P ops S o v a'/\K (a'.put o.dst v) w') a w:=by
 obtain⟨R,A,h3⟩:=Oper.apart_spec rn;have D:∀(a:Act),dH P ops S o v a->∀u,dH P ops S o v (a.put q.dst u):=λa y u=>
  y.of_same (execOp_put o rr a q.dst u h3) (wanted_put o a q.dst u h3)
 have rv:∀d,dH P ops S o v {a with defers:=d::a.defers}:=λd=>y.of_same rfl rfl;unfold wpOp at*;simp only[hj] at*;rw[wanted_put q a o.dst v R] at h
 split
 ·rename_i hw
  simp only[hw,oB] at h;rcases h with h|⟨rm,rx⟩
  case inr=>exact .inr ⟨by unfold Oper.asks at*;rw[execOp_put q rl a o.dst v R] at rm;exact rm,rx⟩
  refine .inl ?_;unfold km at*;rw[execOp_put q rl a o.dst v R] at h;generalize (execOp a.eval q).run P w=r at*;cases r with
  |ok n w'=>
   cases n<;>simp only[Oper.upon] at h⊢
   case value u=>exact⟨D a y u,by rw[<-lO a v u A];exact h⟩
   case skip=>exact⟨D a y _,by rw[<-lO a v undef A];exact h⟩
   case defer d=>
    refine⟨D _ (rv d) _, ?_⟩;rw[<-lO _ v undef A,<-Act.put_defers];exact h
   case enter f args=>
    refine Calls.mono h λe w'' G=> ?_;cases e with
    |returned u=>exact⟨D a y u,by rw[<-lO a v u A];exact G⟩
    |panicked c=>exact hQ _ _ _ G
    |outgrown=>exact G
   case row row args=>exact Rows.mono h λu w'' G=>⟨D a y u,by rw[<-lO a v u A];exact G⟩
  |halt x w'=>
   cases x<;>simp only[Oper.upon] at h⊢
   case panic u=>exact hQ _ _ _ h
 ·rename_i hw
  simp only[hw] at h;exact⟨D a y _,by rw[<-lO a v undef A];exact h⟩
def dz (P:i8)(md:fy)(ops:cG ij)(Q:Exit->Act->World->Prop)(S:World->Prop):cd->cG Bool->Act->World->Prop
 |0,listed,a,w=>cN md ops listed=[]/\Q .normal a w
 |fuel+1,listed,a,w=>
  (cN md ops listed=[]->Q .normal a w)/\
  ∀i∈cN md ops listed,wpOp P ops Q i (λd w'=>S w'/\∀w'',Gw w' w''->dz P md ops Q S fuel (listed.setIfInBounds i qv) d w'') a w
theorem qw:∀(fuel:cd)(listed:cG Bool)(a:Act)(w:World),dz P md ops Q S fuel listed a w->wpAny P md ops Q fuel listed a w
 |0,_,_,_,h=>h
 |fuel+1,_,_,_,h=>⟨h.1,λi d=>wpOp_mono (λf w' o=>qw fuel _ f w' (o.2 w' (Gw.refl _))) (h.2 i d)⟩
theorem mP (rl:∀w w',S w->Gw w w'->S w'){i:cd}{q:ij}{v:bw}(hi:ops[i]?=qt q)(rn:∀(j:cd)(o:ij) A b,ops[j]?=qt o->o.op≠ .select A b)
  (hQ:∀c a w,Q (.panic c) (a.put q.dst v) w->Q (.panic c) a w):
  ∀(fuel:cd)(listed:cG Bool)(a:Act)(w:World),
   (∀j u,ops[j]?=qt u->j≠i->listed.getD j qv=qS->(∀e∈u.after,ev md e=qv->e.on≠i)->q.apart ops u=qv)->
   i∈cN md ops listed->listed[i]?=qt qS->dH P ops S q v a->S w->
   (∀w',Gw w w'->dz P md ops Q S fuel (listed.setIfInBounds i qv) (a.put q.dst v) w')->dz P md ops Q S (fuel+1) listed a w:=by
 intro fuel
 induction fuel with
 |zero=>
  intro listed a w _ y _ J D H;refine⟨λh=>(by rw[h] at y;cases y),λj G=> ?_⟩
  by_cases d:j=i
  ·subst d;exact J.wpOp hi D λw' f=>⟨rl _ _ D f,λw'' rm=>H w'' (f.trans rm)⟩
  ·have:=lp G d
   rw[(H w (Gw.refl w)).1] at this;cases this
 |succ fuel ih=>
  intro listed a w rr y rv J D H;refine⟨λh=>(by rw[h] at y;cases y),λj G=> ?_⟩
  by_cases d:j=i
  ·subst d;exact J.wpOp hi D λw' f=>⟨rl _ _ D f,λw'' rm=>H w'' (f.trans rm)⟩
  ·have h1:=(H w (Gw.refl w)).2 j (lp G d)
   obtain⟨rx,u,K,sk⟩:=mem_ready.1 G;have rK:∀e∈u.after,ev md e=qv->e.on≠i:=λe he hb rL=>gT rv K he hb rL G;have h2:=yZ K (rr j u K d rx rK) (λA b=>rn i q A b hi) (λA b=>rn j u A b K) hQ J h1;have rN:∀k ok,ops[k]?=qt ok->k≠i->(listed.setIfInBounds j qv).getD k qv=qS->
     (∀e∈ok.after,ev md e=qv->e.on≠i)->q.apart ops ok=qv:=λk ok hk rS rB se=>by
    refine rr k ok hk rS ?_ se
    by_cases rI:j=k
    ·subst rI;exact rx
    ·rw[getD_set_ne qv rI] at rB;exact rB
   refine wpOp_mono (λa' w' R=>⟨R.2.1,λw'' f=>ih (listed.setIfInBounds j qv) a' w'' rN (lp y (Ne.symm d)) (by rw[gO d];exact rv) R.1 (rl _ _ R.2.1 f) λw3 sf=> ?_⟩) h2;rw[mC _ _ d];exact R.2.2 w3 (f.trans sf)
theorem uT {C:World->Prop}(i:cd){d:ij}{v:bw}{fuel:cd}{listed:cG Bool}{a:Act}{w:World}(o:ops[i]?=qt d)(q:∀w w',S w->Gw w w'->S w')
  (hC:∀w,S w->C w)(f:S w)
  (h:∀w',Gw w w'->S w'->dz P md ops Q S fuel (listed.setIfInBounds i qv) (a.put d.dst v) w')
  (A:∀w,C w->(execOp a.eval d).run P w= .ok (.value v) w:=by intro w u;go_simp;try rfl)
  (u:dt d (im ops a.tmps)=qv:=by rfl)
  (D:ei ops=qv:=by kernel_rfl)(G:ia md ops listed i=qv:=by kernel_rfl)(J:(cN md ops listed).contains i=qv:=by kernel_rfl)(K:listed[i]?=qt qS:=by kernel_rfl)
  (R:∀c a w,Q (.panic c) (a.put d.dst v) w->Q (.panic c) a w:=by exact λ_ _ _ h=>h):dz P md ops Q S (fuel+1) listed a w:=
 mP q o (hU D) R fuel listed a w (kf o G) (by simpa using J) K ⟨u,λw f=>by rw[A w (hC w f)];exact⟨rfl,Gw.refl w⟩⟩ f λw' y=>h w' y (q _ _ f y)
theorem uC {f:FuncId}{args:cG bw}(v:bw)(i:cd){d:ij}{fuel:cd}{listed:cG Bool}{a:Act}{w:World}(q:ops[i]?=qt d)(u:∀w w',S w->Gw w w'->S w')(o:S w)
  (A:∀w,S w->ft P f args w λe w'=>e= rk v/\Gw w w')
  (h:∀w',Gw w w'->S w'->dz P md ops Q S fuel (listed.setIfInBounds i qv) (a.put d.dst v) w')
  (D:∀w,(execOp a.eval d).run P w= .ok (.enter f args) w:=by intro w;go_simp;try rfl)
  (G:dt d (im ops a.tmps)=qv:=by rfl)
  (J:ei ops=qv:=by kernel_rfl)(K:ia md ops listed i=qv:=by kernel_rfl)(R:(cN md ops listed).contains i=qv:=by kernel_rfl)(hl:listed[i]?=qt qS:=by kernel_rfl)
  (hQ:∀c a w,Q (.panic c) (a.put d.dst v) w->Q (.panic c) a w:=by exact λ_ _ _ h=>h):dz P md ops Q S (fuel+1) listed a w:=
 mP u q (hU J) hQ fuel listed a w (kf q K) (by simpa using R) hl ⟨G,λw o=>by rw[D w];exact A w o⟩ o λw' y=>h w' y (u _ _ o y)
theorem uJ {fuel:cd}{listed:cG Bool}{a:Act}{w:World}(i:cd){o:ij}(u:ops[i]?=qt o)
  (h:∀d:Act->World->Prop,(∀a w,S w->(∀w',Gw w w'->S w'->dz P md ops Q S fuel (listed.setIfInBounds i qv) a w')->d a w)->km P o a w d Q)(v:∀w w',S w->Gw w w'->S w')
  (y:dt o (im ops a.tmps)=qv:=by rfl):wpOp P ops Q i (λA w'=>S w'/\∀w'',Gw w' w''->dz P md ops Q S fuel (listed.setIfInBounds i qv) A w'') a w:=
 wpOp_step u (λd D=>by rw[cI y];exact h d (λa w f G=>D a w ⟨f,λw'' q=>G w'' q (v _ _ f q)⟩))
theorem uO (i:cd){o:ij}{fuel:cd}{listed:cG Bool}{a:Act}{w:World}(u:ops[i]?=qt o)(v:∀w w',S w->Gw w w'->S w')
  (h:∀d:Act->World->Prop,(∀a w,S w->(∀w',Gw w w'->S w'->dz P md ops Q S fuel (listed.setIfInBounds i qv) a w')->d a w)->km P o a w d Q)
  (y:dt o (im ops a.tmps)=qv:=by rfl)(f:cN md ops listed=[i]:=by kernel_rfl):
  dz P md ops Q S (fuel+1) listed a w:=by
 refine⟨λh0=>(by rw[f] at h0;cases h0),λj q=> ?_⟩;rw[f] at q;obtain rfl:=cA.1 q;exact uJ j u h v y
theorem DY (i j:cd){fuel:cd}{listed:cG Bool}{a:Act}{w:World}
  (o:wpOp P ops Q i (λf w'=>S w'/\∀w'',Gw w' w''->dz P md ops Q S fuel (listed.setIfInBounds i qv) f w'') a w)
  (q:wpOp P ops Q j (λf w'=>S w'/\∀w'',Gw w' w''->dz P md ops Q S fuel (listed.setIfInBounds j qv) f w'') a w)
  (h:cN md ops listed=[i,j]:=by kernel_rfl):
  dz P md ops Q S (fuel+1) listed a w:=by
 refine⟨λh0=>(by rw[h] at h0;cases h0),λk d=> ?_⟩;rw[h] at d;rcases fW.1 d with rfl|d
 ·exact o
 ·obtain rfl:=cA.1 d
  exact q
theorem DZ (i j l:cd){fuel:cd}{listed:cG Bool}{a:Act}{w:World}
  (o:wpOp P ops Q i (λf w'=>S w'/\∀w'',Gw w' w''->dz P md ops Q S fuel (listed.setIfInBounds i qv) f w'') a w)
  (q:wpOp P ops Q j (λf w'=>S w'/\∀w'',Gw w' w''->dz P md ops Q S fuel (listed.setIfInBounds j qv) f w'') a w)
  (u:wpOp P ops Q l (λf w'=>S w'/\∀w'',Gw w' w''->dz P md ops Q S fuel (listed.setIfInBounds l qv) f w'') a w)
  (h:cN md ops listed=[i,j,l]:=by kernel_rfl):
  dz P md ops Q S (fuel+1) listed a w:=by
 refine⟨λh0=>(by rw[h] at h0;cases h0),λk d=> ?_⟩;rw[h] at d;rcases fW.1 d with rfl|d
 ·exact o
 rcases fW.1 d with rfl|d
 ·exact q
 ·obtain rfl:=cA.1 d
  exact u
theorem xz {id:cd}{a:Act}{w:World}(S:World->Prop)(d:P.follows .mixedOrders=qv)
  (h:dz P .any ops Q S ops.size (kB ops.size qS) a w.drew):(pT id ops qv).wp P Q a w:=
 wp_region_any d (qw _ _ _ _ h)
end
section
open Go.RowKit Go.Maps
theorem bB {V:World}{D:cd}{x y z:bw}(h:V.heap[D]?=qt (rj #[x,y,z] 164 (0,0)))(a b c:cj):
  (((V.setCell ⟨D,0,qu⟩ (Z U a)).setCell ⟨D,1,qu⟩ (Z U b)).setCell ⟨D,2,qu⟩ (Z U c)).heap[D]?=qt (rj #[Z U a,Z U b,Z U c] 164 (0,0))/\Ext (·=D) V (((V.setCell ⟨D,0,qu⟩ (Z U a)).setCell ⟨D,1,qu⟩ (Z U b)).setCell ⟨D,2,qu⟩ (Z U c)):=by
 have d:=aE V D 0 _ _ (Z U a) h;have f:=aE _ D 1 _ _ (Z U b) d;have o:=aE _ D 2 _ _ (Z U c) f;exact⟨o,((Ext.set1 V D 0 _).trans (Ext.set1 _ D 1 _) (λq e=> .inl e)).trans (Ext.set1 _ D 2 _) (λq e=> .inl e)⟩
theorem Er (p:PS)(f k:cj)(i:Ins)(h:i.op=12):Dw f k i p (({p with St:=p.St++[(f,k)]}:PS).add (aQ f i.d) p.St.length):=by
 unfold Dw PS.start kQ lK j3 kR;simp only[h];simp[nE]
theorem Ci (p:PS)(f k:cj)(i:Ins)(t:Th)(d:¬i.op=12)(h:¬i.op=9)(o:¬i.op=15)(q:¬i.op=18)(u:kR f i=[(aQ f i.a,t)]):Dw f k i p {p with GL:=p.GL++[(aQ f i.a,t)]}:=by
 unfold Dw PS.start kQ lK j3;rw[u];simp only[cw d,cw h,cw o,cw q];simp[nE]
theorem xA (p:PS)(f k:cj)(i:Ins)(d:¬i.op=12)(h:¬i.op=10)(o:¬i.op=11):p.start f k i=p:=by
 unfold PS.start lK j3 kR;simp only[cw d,cw h,cw o,kh,List.foldl_nil]
theorem vH {p p':PS}{f k:cj}{i:Ins}(d:¬i.op=12)(o:¬i.op=10)(q:¬i.op=11)(h:nE (kQ f i) p p'):Dw f k i p p':=by
 unfold Dw;rw[xA p f k i d o q];exact h
theorem Dm:∀(d:bm (Nd×cd))(b:Nd),d.Nodup->(∀q∈d,q.1=b/\q.2<=400)->d.length<=401:=λd b o f=>by
 have:=fO d ((lR 401).map λx=>(b,x)) o λq h=>dd.2 ⟨q.2,oc.2 (by have:=(f q h).2;omega),by rw[<-(f q h).1]⟩;rw[dj,kA] at this;exact this
structure Ey (j:cd)(p p':PS):Prop where
 f:p'.FL.length<=p.FL.length+j
 h:p'.H.length<=p.H.length+401*j
 t:p'.td.length<=p.td.length+401*j
 xs:∀n x,(n,x)∈p'.H->x<=400
theorem Ey.flow {j:cd}{p p1 p':PS}{a b:Nd}(h:Ey j p p1)(D:BQ a b p1 p'):Ey (j+1) p p':=by
 rcases D with⟨_,rfl⟩|⟨_,l,v,rfl⟩
 ·exact⟨by have:=h.f;omega,by have:=h.h;omega,by have:=h.t;omega,h.xs⟩
 ·obtain⟨_,G,_,⟨d,y,J,K,u⟩,_⟩:=jm (n:=b) l ({p1 with FL:=p1.FL++[(a,b)]}:PS)
  have R:=Dm d b K λq A=>⟨(u q A).2.1,h.xs _ _ ((v _).1 (u q A).2.2)⟩
  refine⟨?_, ?_, ?_,λn x o=> ?_⟩
  ·rw[G]
   show(p1.FL++[(a,b)]).length<=_
   have:=h.f;simp;omega
  ·rw[y,co]
   have:({p1 with FL:=p1.FL++[(a,b)]}:PS).H.length<=_:=h.h;omega
  ·rw[J,co]
   have:({p1 with FL:=p1.FL++[(a,b)]}:PS).td.length<=_:=h.t;omega
  ·rw[y] at o
   rcases cC.1 o with o|o
   ·exact h.xs n x o
   ·have:=u _ o
    exact h.xs a x ((v _).1 this.2.2)
theorem za {f g:cj}{l:bm cj}{j:cd}{x:cj}(h:l[j]?=qt x):gG f g 0 (l.take (j+1))=gG f g 0 (l.take j)++[(aQ f x,aQ g (j:cj))]:=by
 have d:∀(l:bm cj)(n j:cd),l[j]?=qt x->gG f g n (l.take (j+1))=gG f g n (l.take j)++[(aQ f x,aQ g ((n+j:cd):cj))]:=by
  intro l
  induction l with
  |nil=>intro n j h;simp at h
  |cons a r ih=>
   intro n j h;cases j with
   |zero=>
    obtain rfl:a=x:=by simpa using h
    simp[gG]
   |succ j=>
    rw[nw,nw];unfold gG;rw[ih (n+1) j (by simpa using h),show n+1+j=n+(j+1) by omega];rfl
 have:=d l 0 j h;rw[cH] at this;exact this
structure EN (W1:World)(D D9 D10 D11:cd)(ic:cG bw)(n9 n10 n11:Nd)(w:World):Prop where
 below:aq W1.heap.size W1 w
 ins:w.heap[D]?=qt (rj ic 42 (0,0))
 r9:w.heap[D9]?=qt (rj #[Z U n9.1,Z U n9.2.1,Z U n9.2.2] 164 (0,0))
 r10:w.heap[D10]?=qt (rj #[Z U n10.1,Z U n10.2.1,Z U n10.2.2] 164 (0,0))
 r11:w.heap[D11]?=qt (rj #[Z U n11.1,Z U n11.2.1,Z U n11.2.2] 164 (0,0))
 l9:W1.heap.size<=D9
 l10:W1.heap.size<=D10
 l11:W1.heap.size<=D11
section
variable {T HM FM GM:cd}{m:Mo}{B:cd}{tg tg1:cd->PT}{s s1:vM}{p p1 p':PS}{w w1 w':World}
theorem sD (w w0:World)(h:Pm T HM FM GM m B tg s p w)(hB:w0.heap.size<=B)(CA:aq w0.heap.size w0 w)(f k:cj)(i:Ins)(ga:du oA)(gc:cd)(CC:i.argsV= ra ga i.args.length gc)(ET:∃ao n cap,i.modeV= ra ao n cap)(AK:au w0 ga i.args)
  (hX:zG (f,k,i))(CD:∀n x,(n,x)∈p.H->x<=400)(lS:p.St.length<=400)(lF:p.FL.length<=200000)(lG:p.GL.length<=400)(lH:p.H.length<=100000000)(lT:p.td.length<=100000000):
  ft ac 71 #[rb (qt ⟨T,0,qu⟩),Z U f,Z U k,rh i.cells] w λe w'=>e= rk (.tuple #[])/\∃p',Dw f k i p p'/\bn Z0 T HM FM GM m B tg p' w w':=by
 obtain⟨mo,mn,mc,CH⟩:=ET;obtain⟨op,d,a,b,ff,nn,CM,argsV,modeV,CN,CT,ln,cl,args⟩:=i;simp only at CC CH AK;subst CC CH;simp only[Ins.cells];obtain⟨ic,wa⟩:=zE (#[Z U op,Z U d,Z U a,Z U b,Z U ff,Z U nn,qT CM,ra ga args.length gc,ra mo mn mc,Z U CN,Z U CT,Z U ln,Z U cl]:cG bw);obtain⟨D,hD⟩:=zE w.heap.size;obtain⟨W1,wg⟩:=zE (w.alloc (rj #[Z U op,Z U d,Z U a,Z U b,Z U ff,Z U nn,qT CM,ra ga args.length gc,ra mo mn mc,Z U CN,Z U CT,Z U ln,Z U cl] 42));have C3:=iF wg;have As:W1.heap[D]?=qt (rj ic 42 (0,0)):=by rw[<-wg,<-hD,<-wa];exact alloc_at _ _
 have At:W1.heap.size=D+1:=by rw[<-wg,<-hD];simp
 obtain⟨S2,sT⟩:=zE ((λW=>aq W1.heap.size W1 W):World->Prop);have rn:ca (∀W,S2 W->aq W1.heap.size W1 W):=λW hW=>by rw[<-sT] at hW;exact hW
 have sn:ca (∀W,aq W1.heap.size W1 W->S2 W):=λW hW=>by rw[<-sT];exact hW
 have rL:ca (∀w w',S2 w->Gw w w'->S2 w'):=λw w' h v=>by
  have h1:=rn.out w h;exact sn.out _ (h1.trans (m9 v h1.size))
 have sf:ca (∀W,S2 W->W.cell? ⟨D,1,qu⟩=qt (Z U d)/\W.cell? ⟨D,2,qu⟩=qt (Z U a)/\W.cell? ⟨D,3,qu⟩=qt (Z U b)/\D<W.heap.size):=λW hW=>by
  have hr:=((rn.out W hW).block D (aa As)).trans As;exact⟨(rowAt hr 1 (by rw[<-wa];rfl)).1,(rowAt hr 2 (by rw[<-wa];rfl)).1,(rowAt hr 3 (by rw[<-wa];rfl)).1,aa hr⟩
 have o:=sn.out W1.drew (an _ _).drew;have tU:ca (∀W,S2 W->ft ac 77 #[Z U f,Z U d] W λe w'=>e= rk (rh #[Z U f,Z U d,Z U (-1)])/\Gw W w'):=λW _=>(bF f d W).mono λe w' h=>h;have Ax:ca (∀W,S2 W->ft ac 77 #[Z U f,Z U a] W λe w'=>e= rk (rh #[Z U f,Z U a,Z U (-1)])/\Gw W w'):=λW _=>(bF f a W).mono λe w' h=>h;have C4:ca (∀W,S2 W->ft ac 77 #[Z U f,Z U b] W λe w'=>e= rk (rh #[Z U f,Z U b,Z U (-1)])/\Gw W w'):=λW _=>(bF f b W).mono λe w' h=>h;have H:=zH h;have C5:=zH C3;have sL:=zH As;have EU:=zH At;have EV:=zH wg;have wi:=zH wa;have AM:=zH CA;have EW:=zH AK;have HX:=zH hX;have AN:=zH CD;clear h C3 As At sT wg wa CA AK hX CD;go_enter func71,ntmps71
 go_upto_region 2 with(fail)
 rw[EV.out];(try rw[hD])
 go_cut [9,10,11] (λs9 EX EY wc=>∃D9 rl rr,s9= rb (qt ⟨D9,0,qu⟩)/\EX= rb (qt ⟨rl,0,qu⟩)/\EY= rb (qt ⟨rr,0,qu⟩)/\EN W1 D D9 rl rr ic (aQ f d) (aQ f a) (aQ f b) wc)
 case first=>
  refine xz S2 (by kernel_rfl) ?_;refine uT 0 rfl rL.out sf.out o ?_;clear o;intro V _ o;(try go_simp);refine uT 1 rfl rL.out sf.out o ?_;clear o;intro V _ o;(try go_simp);refine uT 2 rfl rL.out sf.out o ?_;clear o;intro V _ o;(try go_simp);refine uC (rh #[Z U f,Z U d,Z U (-1)]) 3 rfl rL.out o tU.out ?_;clear o;intro V _ o;(try go_simp);refine uT 4 rfl rL.out sf.out o ?_;clear o;intro V _ o;(try go_simp);refine uT 5 rfl rL.out sf.out o ?_;clear o;intro V _ o;(try go_simp);refine uT 6 rfl rL.out sf.out o ?_;clear o;intro V _ o;(try go_simp);refine uC (rh #[Z U f,Z U a,Z U (-1)]) 7 rfl rL.out o Ax.out ?_;clear o;intro V _ o;(try go_simp);refine uT 8 rfl rL.out sf.out o ?_;clear o;intro V _ o;(try go_simp);refine uT 9 rfl rL.out sf.out o ?_;clear o;intro V _ o;(try go_simp);refine uT 10 rfl rL.out sf.out o ?_;clear o;intro V _ o;(try go_simp);refine uC (rh #[Z U f,Z U b,Z U (-1)]) 11 rfl rL.out o C4.out ?_;clear o;intro V _ o;(try go_simp);refine DZ 12 13 14 ?_ ?_ ?_
  ·refine uJ 12 rfl (λK' J=> ?_) rL.out
   go_simp;obtain⟨D9,rS⟩:=zE V.heap.size;(try rw[rS]);have tn:W1.heap.size<=D9:=by rw[<-rS];exact(rn.out V o).size
   have rv:(V.alloc (rj #[Z U 0,Z U 0,Z U 0] 164)).heap[D9]?=qt (rj #[Z U 0,Z U 0,Z U 0] 164 (0,0)):=by rw[<-rS];exact alloc_at _ _
   refine J _ _ (rL.out _ _ o ((an _ _).alloc (bp _) _)) ?_;clear J o;intro tv v o;have A:=(cc v D9 (aa rv)).trans rv;clear v rv rS;obtain⟨V,hV⟩:=zE tv;rw[hV] at o A⊢;clear hV;(try go_simp);refine DY 13 14 ?_ ?_
   ·refine uJ 13 rfl (λK' J=> ?_) rL.out
    go_simp;obtain⟨rl,se⟩:=zE V.heap.size;(try rw[se]);have tp:W1.heap.size<=rl:=by rw[<-se];exact(rn.out V o).size
    have rx:(V.alloc (rj #[Z U 0,Z U 0,Z U 0] 164)).heap[rl]?=qt (rj #[Z U 0,Z U 0,Z U 0] 164 (0,0)):=by rw[<-se];exact alloc_at _ _
    have C6:D9<rl:=by rw[<-se];exact aa A
    have rv:=(bt V (rj #[Z U 0,Z U 0,Z U 0] 164) D9 (aa A)).trans A;refine J _ _ (rL.out _ _ o ((an _ _).alloc (bp _) _)) ?_;clear J o;intro tz v o;clear A;have A:=(cc v D9 (aa rv)).trans rv;have K:=(cc v rl (aa rx)).trans rx;clear v rv rx se;obtain⟨V,hV⟩:=zE tz;rw[hV] at o A K⊢;clear hV;(try go_simp);refine uO 14 rfl rL.out λK' J=> ?_;go_simp;obtain⟨rr,sk⟩:=zE V.heap.size;(try rw[sk]);have tr:W1.heap.size<=rr:=by rw[<-sk];exact(rn.out V o).size
    have rB:(V.alloc (rj #[Z U 0,Z U 0,Z U 0] 164)).heap[rr]?=qt (rj #[Z U 0,Z U 0,Z U 0] 164 (0,0)):=by rw[<-sk];exact alloc_at _ _
    have C7:D9<rr:=by rw[<-sk];exact aa A
    have rv:=(bt V (rj #[Z U 0,Z U 0,Z U 0] 164) D9 (aa A)).trans A;have Dd:rl<rr:=by rw[<-sk];exact aa K
    have rx:=(bt V (rj #[Z U 0,Z U 0,Z U 0] 164) rl (aa K)).trans K;refine J _ _ (rL.out _ _ o ((an _ _).alloc (bp _) _)) ?_;clear J o;intro tA v o;clear A;have A:=(cc v D9 (aa rv)).trans rv;clear K;have K:=(cc v rl (aa rx)).trans rx;have R:=(cc v rr (aa rB)).trans rB;clear v rv rx rB sk;obtain⟨V,hV⟩:=zE tA;rw[hV] at o A K R⊢;clear hV;(try go_simp);refine uO 15 rfl rL.out λK' J=> ?_;obtain⟨rI,rm⟩:=bB A f d (-1);obtain⟨c0,f0⟩:=rowAt A 0 rfl;obtain⟨c1,f1⟩:=rowAt A 1 rfl;obtain⟨c2,f2⟩:=rowAt A 2 rfl;obtain⟨W',rK⟩:=zE (((V.setCell ⟨D9,0,qu⟩ (Z U f)).setCell ⟨D9,1,qu⟩ (Z U d)).setCell ⟨D9,2,qu⟩ (Z U (-1)));go_simp;(try rw[rK]);rw[rK] at rI rm;have rx:=rm.heap K (λe=>by omega);have rB:=rm.heap R (λe=>by omega);have rN:S2 W':=sn.out _ ((rn.out V o).trans (rm.below (rn.out V o).size (λq e=>by omega)));refine J _ _ rN ?_;clear J o rm c0 f0 c1 f1 c2 f2 rK;intro th v o;clear A;have A:=(cc v D9 (aa rI)).trans rI;clear K;have K:=(cc v rl (aa rx)).trans rx;clear R;have R:=(cc v rr (aa rB)).trans rB;clear v rI rN rx rB;obtain⟨V,hV⟩:=zE th;rw[hV] at o A K R⊢;clear hV;(try go_simp);refine uO 16 rfl rL.out λK' J=> ?_;obtain⟨rI,rm⟩:=bB K f a (-1);obtain⟨c0,f0⟩:=rowAt K 0 rfl;obtain⟨c1,f1⟩:=rowAt K 1 rfl;obtain⟨c2,f2⟩:=rowAt K 2 rfl;obtain⟨W',rK⟩:=zE (((V.setCell ⟨rl,0,qu⟩ (Z U f)).setCell ⟨rl,1,qu⟩ (Z U a)).setCell ⟨rl,2,qu⟩ (Z U (-1)));go_simp;(try rw[rK]);rw[rK] at rI rm;have rv:=rm.heap A (λe=>by omega);have rB:=rm.heap R (λe=>by omega);have rN:S2 W':=sn.out _ ((rn.out V o).trans (rm.below (rn.out V o).size (λq e=>by omega)));refine J _ _ rN ?_;clear J o rm c0 f0 c1 f1 c2 f2 rK;intro ti v o;clear A;have A:=(cc v D9 (aa rv)).trans rv;clear K;have K:=(cc v rl (aa rI)).trans rI;clear R;have R:=(cc v rr (aa rB)).trans rB;clear v rI rN rv rB;obtain⟨V,hV⟩:=zE ti;rw[hV] at o A K R⊢;clear hV;(try go_simp);refine uO 17 rfl rL.out λK' J=> ?_;obtain⟨rI,rm⟩:=bB R f b (-1);obtain⟨c0,f0⟩:=rowAt R 0 rfl;obtain⟨c1,f1⟩:=rowAt R 1 rfl;obtain⟨c2,f2⟩:=rowAt R 2 rfl;obtain⟨W',rK⟩:=zE (((V.setCell ⟨rr,0,qu⟩ (Z U f)).setCell ⟨rr,1,qu⟩ (Z U b)).setCell ⟨rr,2,qu⟩ (Z U (-1)));go_simp;(try rw[rK]);rw[rK] at rI rm;have rv:=rm.heap A (λe=>by omega);have rx:=rm.heap K (λe=>by omega);have rN:S2 W':=sn.out _ ((rn.out V o).trans (rm.below (rn.out V o).size (λq e=>by omega)));refine J _ _ rN ?_;clear J o rm c0 f0 c1 f1 c2 f2 rK;intro tj v o;clear A;have A:=(cc v D9 (aa rv)).trans rv;clear K;have K:=(cc v rl (aa rx)).trans rx;clear R;have R:=(cc v rr (aa rI)).trans rI;clear v rI rN rv rx;obtain⟨V,hV⟩:=zE tj;rw[hV] at o A K R⊢;clear hV;(try go_simp);refine⟨by kernel_rfl, ?_⟩;go_wp2
    go_meet
    case rel=>exact⟨D9,rl,rr,rfl,rfl,rfl,rn.out V o,((rn.out V o).block D (aa sL.out)).trans sL.out,A,K,R,tn,tp,tr⟩
   ·refine uJ 14 rfl (λK' J=> ?_) rL.out
    go_simp;obtain⟨rr,sk⟩:=zE V.heap.size;(try rw[sk]);have tr:W1.heap.size<=rr:=by rw[<-sk];exact(rn.out V o).size
    have rB:(V.alloc (rj #[Z U 0,Z U 0,Z U 0] 164)).heap[rr]?=qt (rj #[Z U 0,Z U 0,Z U 0] 164 (0,0)):=by rw[<-sk];exact alloc_at _ _
    have C7:D9<rr:=by rw[<-sk];exact aa A
    have rv:=(bt V (rj #[Z U 0,Z U 0,Z U 0] 164) D9 (aa A)).trans A;refine J _ _ (rL.out _ _ o ((an _ _).alloc (bp _) _)) ?_;clear J o;intro tA v o;clear A;have A:=(cc v D9 (aa rv)).trans rv;have R:=(cc v rr (aa rB)).trans rB;clear v rv rB sk;obtain⟨V,hV⟩:=zE tA;rw[hV] at o A R⊢;clear hV;(try go_simp);refine uO 13 rfl rL.out λK' J=> ?_;go_simp;obtain⟨rl,se⟩:=zE V.heap.size;(try rw[se]);have tp:W1.heap.size<=rl:=by rw[<-se];exact(rn.out V o).size
    have rx:(V.alloc (rj #[Z U 0,Z U 0,Z U 0] 164)).heap[rl]?=qt (rj #[Z U 0,Z U 0,Z U 0] 164 (0,0)):=by rw[<-se];exact alloc_at _ _
    have C6:D9<rl:=by rw[<-se];exact aa A
    have rv:=(bt V (rj #[Z U 0,Z U 0,Z U 0] 164) D9 (aa A)).trans A;have Dg:rr<rl:=by rw[<-se];exact aa R
    have rB:=(bt V (rj #[Z U 0,Z U 0,Z U 0] 164) rr (aa R)).trans R;refine J _ _ (rL.out _ _ o ((an _ _).alloc (bp _) _)) ?_;clear J o;intro tz v o;clear A;have A:=(cc v D9 (aa rv)).trans rv;clear R;have R:=(cc v rr (aa rB)).trans rB;have K:=(cc v rl (aa rx)).trans rx;clear v rv rB rx se;obtain⟨V,hV⟩:=zE tz;rw[hV] at o A R K⊢;clear hV;(try go_simp);refine uO 15 rfl rL.out λK' J=> ?_;obtain⟨rI,rm⟩:=bB A f d (-1);obtain⟨c0,f0⟩:=rowAt A 0 rfl;obtain⟨c1,f1⟩:=rowAt A 1 rfl;obtain⟨c2,f2⟩:=rowAt A 2 rfl;obtain⟨W',rK⟩:=zE (((V.setCell ⟨D9,0,qu⟩ (Z U f)).setCell ⟨D9,1,qu⟩ (Z U d)).setCell ⟨D9,2,qu⟩ (Z U (-1)));go_simp;(try rw[rK]);rw[rK] at rI rm;have rx:=rm.heap K (λe=>by omega);have rB:=rm.heap R (λe=>by omega);have rN:S2 W':=sn.out _ ((rn.out V o).trans (rm.below (rn.out V o).size (λq e=>by omega)));refine J _ _ rN ?_;clear J o rm c0 f0 c1 f1 c2 f2 rK;intro th v o;clear A;have A:=(cc v D9 (aa rI)).trans rI;clear K;have K:=(cc v rl (aa rx)).trans rx;clear R;have R:=(cc v rr (aa rB)).trans rB;clear v rI rN rx rB;obtain⟨V,hV⟩:=zE th;rw[hV] at o A K R⊢;clear hV;(try go_simp);refine uO 16 rfl rL.out λK' J=> ?_;obtain⟨rI,rm⟩:=bB K f a (-1);obtain⟨c0,f0⟩:=rowAt K 0 rfl;obtain⟨c1,f1⟩:=rowAt K 1 rfl;obtain⟨c2,f2⟩:=rowAt K 2 rfl;obtain⟨W',rK⟩:=zE (((V.setCell ⟨rl,0,qu⟩ (Z U f)).setCell ⟨rl,1,qu⟩ (Z U a)).setCell ⟨rl,2,qu⟩ (Z U (-1)));go_simp;(try rw[rK]);rw[rK] at rI rm;have rv:=rm.heap A (λe=>by omega);have rB:=rm.heap R (λe=>by omega);have rN:S2 W':=sn.out _ ((rn.out V o).trans (rm.below (rn.out V o).size (λq e=>by omega)));refine J _ _ rN ?_;clear J o rm c0 f0 c1 f1 c2 f2 rK;intro ti v o;clear A;have A:=(cc v D9 (aa rv)).trans rv;clear K;have K:=(cc v rl (aa rI)).trans rI;clear R;have R:=(cc v rr (aa rB)).trans rB;clear v rI rN rv rB;obtain⟨V,hV⟩:=zE ti;rw[hV] at o A K R⊢;clear hV;(try go_simp);refine uO 17 rfl rL.out λK' J=> ?_;obtain⟨rI,rm⟩:=bB R f b (-1);obtain⟨c0,f0⟩:=rowAt R 0 rfl;obtain⟨c1,f1⟩:=rowAt R 1 rfl;obtain⟨c2,f2⟩:=rowAt R 2 rfl;obtain⟨W',rK⟩:=zE (((V.setCell ⟨rr,0,qu⟩ (Z U f)).setCell ⟨rr,1,qu⟩ (Z U b)).setCell ⟨rr,2,qu⟩ (Z U (-1)));go_simp;(try rw[rK]);rw[rK] at rI rm;have rv:=rm.heap A (λe=>by omega);have rx:=rm.heap K (λe=>by omega);have rN:S2 W':=sn.out _ ((rn.out V o).trans (rm.below (rn.out V o).size (λq e=>by omega)));refine J _ _ rN ?_;clear J o rm c0 f0 c1 f1 c2 f2 rK;intro tj v o;clear A;have A:=(cc v D9 (aa rv)).trans rv;clear K;have K:=(cc v rl (aa rx)).trans rx;clear R;have R:=(cc v rr (aa rI)).trans rI;clear v rI rN rv rx;obtain⟨V,hV⟩:=zE tj;rw[hV] at o A K R⊢;clear hV;(try go_simp);refine⟨by kernel_rfl, ?_⟩;go_wp2
    go_meet
    case rel=>exact⟨D9,rl,rr,rfl,rfl,rfl,rn.out V o,((rn.out V o).block D (aa sL.out)).trans sL.out,A,K,R,tn,tp,tr⟩
  ·refine uJ 13 rfl (λK' J=> ?_) rL.out
   go_simp;obtain⟨rl,se⟩:=zE V.heap.size;(try rw[se]);have tp:W1.heap.size<=rl:=by rw[<-se];exact(rn.out V o).size
   have rx:(V.alloc (rj #[Z U 0,Z U 0,Z U 0] 164)).heap[rl]?=qt (rj #[Z U 0,Z U 0,Z U 0] 164 (0,0)):=by rw[<-se];exact alloc_at _ _
   refine J _ _ (rL.out _ _ o ((an _ _).alloc (bp _) _)) ?_;clear J o;intro tz v o;have K:=(cc v rl (aa rx)).trans rx;clear v rx se;obtain⟨V,hV⟩:=zE tz;rw[hV] at o K⊢;clear hV;(try go_simp);refine DY 12 14 ?_ ?_
   ·refine uJ 12 rfl (λK' J=> ?_) rL.out
    go_simp;obtain⟨D9,rS⟩:=zE V.heap.size;(try rw[rS]);have tn:W1.heap.size<=D9:=by rw[<-rS];exact(rn.out V o).size
    have rv:(V.alloc (rj #[Z U 0,Z U 0,Z U 0] 164)).heap[D9]?=qt (rj #[Z U 0,Z U 0,Z U 0] 164 (0,0)):=by rw[<-rS];exact alloc_at _ _
    have Do:rl<D9:=by rw[<-rS];exact aa K
    have rx:=(bt V (rj #[Z U 0,Z U 0,Z U 0] 164) rl (aa K)).trans K;refine J _ _ (rL.out _ _ o ((an _ _).alloc (bp _) _)) ?_;clear J o;intro tv v o;clear K;have K:=(cc v rl (aa rx)).trans rx;have A:=(cc v D9 (aa rv)).trans rv;clear v rx rv rS;obtain⟨V,hV⟩:=zE tv;rw[hV] at o K A⊢;clear hV;(try go_simp);refine uO 14 rfl rL.out λK' J=> ?_;go_simp;obtain⟨rr,sk⟩:=zE V.heap.size;(try rw[sk]);have tr:W1.heap.size<=rr:=by rw[<-sk];exact(rn.out V o).size
    have rB:(V.alloc (rj #[Z U 0,Z U 0,Z U 0] 164)).heap[rr]?=qt (rj #[Z U 0,Z U 0,Z U 0] 164 (0,0)):=by rw[<-sk];exact alloc_at _ _
    have Dd:rl<rr:=by rw[<-sk];exact aa K
    have rx:=(bt V (rj #[Z U 0,Z U 0,Z U 0] 164) rl (aa K)).trans K;have C7:D9<rr:=by rw[<-sk];exact aa A
    have rv:=(bt V (rj #[Z U 0,Z U 0,Z U 0] 164) D9 (aa A)).trans A;refine J _ _ (rL.out _ _ o ((an _ _).alloc (bp _) _)) ?_;clear J o;intro tA v o;clear K;have K:=(cc v rl (aa rx)).trans rx;clear A;have A:=(cc v D9 (aa rv)).trans rv;have R:=(cc v rr (aa rB)).trans rB;clear v rx rv rB sk;obtain⟨V,hV⟩:=zE tA;rw[hV] at o K A R⊢;clear hV;(try go_simp);refine uO 15 rfl rL.out λK' J=> ?_;obtain⟨rI,rm⟩:=bB A f d (-1);obtain⟨c0,f0⟩:=rowAt A 0 rfl;obtain⟨c1,f1⟩:=rowAt A 1 rfl;obtain⟨c2,f2⟩:=rowAt A 2 rfl;obtain⟨W',rK⟩:=zE (((V.setCell ⟨D9,0,qu⟩ (Z U f)).setCell ⟨D9,1,qu⟩ (Z U d)).setCell ⟨D9,2,qu⟩ (Z U (-1)));go_simp;(try rw[rK]);rw[rK] at rI rm;have rx:=rm.heap K (λe=>by omega);have rB:=rm.heap R (λe=>by omega);have rN:S2 W':=sn.out _ ((rn.out V o).trans (rm.below (rn.out V o).size (λq e=>by omega)));refine J _ _ rN ?_;clear J o rm c0 f0 c1 f1 c2 f2 rK;intro th v o;clear A;have A:=(cc v D9 (aa rI)).trans rI;clear K;have K:=(cc v rl (aa rx)).trans rx;clear R;have R:=(cc v rr (aa rB)).trans rB;clear v rI rN rx rB;obtain⟨V,hV⟩:=zE th;rw[hV] at o A K R⊢;clear hV;(try go_simp);refine uO 16 rfl rL.out λK' J=> ?_;obtain⟨rI,rm⟩:=bB K f a (-1);obtain⟨c0,f0⟩:=rowAt K 0 rfl;obtain⟨c1,f1⟩:=rowAt K 1 rfl;obtain⟨c2,f2⟩:=rowAt K 2 rfl;obtain⟨W',rK⟩:=zE (((V.setCell ⟨rl,0,qu⟩ (Z U f)).setCell ⟨rl,1,qu⟩ (Z U a)).setCell ⟨rl,2,qu⟩ (Z U (-1)));go_simp;(try rw[rK]);rw[rK] at rI rm;have rv:=rm.heap A (λe=>by omega);have rB:=rm.heap R (λe=>by omega);have rN:S2 W':=sn.out _ ((rn.out V o).trans (rm.below (rn.out V o).size (λq e=>by omega)));refine J _ _ rN ?_;clear J o rm c0 f0 c1 f1 c2 f2 rK;intro ti v o;clear A;have A:=(cc v D9 (aa rv)).trans rv;clear K;have K:=(cc v rl (aa rI)).trans rI;clear R;have R:=(cc v rr (aa rB)).trans rB;clear v rI rN rv rB;obtain⟨V,hV⟩:=zE ti;rw[hV] at o A K R⊢;clear hV;(try go_simp);refine uO 17 rfl rL.out λK' J=> ?_;obtain⟨rI,rm⟩:=bB R f b (-1);obtain⟨c0,f0⟩:=rowAt R 0 rfl;obtain⟨c1,f1⟩:=rowAt R 1 rfl;obtain⟨c2,f2⟩:=rowAt R 2 rfl;obtain⟨W',rK⟩:=zE (((V.setCell ⟨rr,0,qu⟩ (Z U f)).setCell ⟨rr,1,qu⟩ (Z U b)).setCell ⟨rr,2,qu⟩ (Z U (-1)));go_simp;(try rw[rK]);rw[rK] at rI rm;have rv:=rm.heap A (λe=>by omega);have rx:=rm.heap K (λe=>by omega);have rN:S2 W':=sn.out _ ((rn.out V o).trans (rm.below (rn.out V o).size (λq e=>by omega)));refine J _ _ rN ?_;clear J o rm c0 f0 c1 f1 c2 f2 rK;intro tj v o;clear A;have A:=(cc v D9 (aa rv)).trans rv;clear K;have K:=(cc v rl (aa rx)).trans rx;clear R;have R:=(cc v rr (aa rI)).trans rI;clear v rI rN rv rx;obtain⟨V,hV⟩:=zE tj;rw[hV] at o A K R⊢;clear hV;(try go_simp);refine⟨by kernel_rfl, ?_⟩;go_wp2
    go_meet
    case rel=>exact⟨D9,rl,rr,rfl,rfl,rfl,rn.out V o,((rn.out V o).block D (aa sL.out)).trans sL.out,A,K,R,tn,tp,tr⟩
   ·refine uJ 14 rfl (λK' J=> ?_) rL.out
    go_simp;obtain⟨rr,sk⟩:=zE V.heap.size;(try rw[sk]);have tr:W1.heap.size<=rr:=by rw[<-sk];exact(rn.out V o).size
    have rB:(V.alloc (rj #[Z U 0,Z U 0,Z U 0] 164)).heap[rr]?=qt (rj #[Z U 0,Z U 0,Z U 0] 164 (0,0)):=by rw[<-sk];exact alloc_at _ _
    have Dd:rl<rr:=by rw[<-sk];exact aa K
    have rx:=(bt V (rj #[Z U 0,Z U 0,Z U 0] 164) rl (aa K)).trans K;refine J _ _ (rL.out _ _ o ((an _ _).alloc (bp _) _)) ?_;clear J o;intro tA v o;clear K;have K:=(cc v rl (aa rx)).trans rx;have R:=(cc v rr (aa rB)).trans rB;clear v rx rB sk;obtain⟨V,hV⟩:=zE tA;rw[hV] at o K R⊢;clear hV;(try go_simp);refine uO 12 rfl rL.out λK' J=> ?_;go_simp;obtain⟨D9,rS⟩:=zE V.heap.size;(try rw[rS]);have tn:W1.heap.size<=D9:=by rw[<-rS];exact(rn.out V o).size
    have rv:(V.alloc (rj #[Z U 0,Z U 0,Z U 0] 164)).heap[D9]?=qt (rj #[Z U 0,Z U 0,Z U 0] 164 (0,0)):=by rw[<-rS];exact alloc_at _ _
    have Do:rl<D9:=by rw[<-rS];exact aa K
    have rx:=(bt V (rj #[Z U 0,Z U 0,Z U 0] 164) rl (aa K)).trans K;have Ds:rr<D9:=by rw[<-rS];exact aa R
    have rB:=(bt V (rj #[Z U 0,Z U 0,Z U 0] 164) rr (aa R)).trans R;refine J _ _ (rL.out _ _ o ((an _ _).alloc (bp _) _)) ?_;clear J o;intro tv v o;clear K;have K:=(cc v rl (aa rx)).trans rx;clear R;have R:=(cc v rr (aa rB)).trans rB;have A:=(cc v D9 (aa rv)).trans rv;clear v rx rB rv rS;obtain⟨V,hV⟩:=zE tv;rw[hV] at o K R A⊢;clear hV;(try go_simp);refine uO 15 rfl rL.out λK' J=> ?_;obtain⟨rI,rm⟩:=bB A f d (-1);obtain⟨c0,f0⟩:=rowAt A 0 rfl;obtain⟨c1,f1⟩:=rowAt A 1 rfl;obtain⟨c2,f2⟩:=rowAt A 2 rfl;obtain⟨W',rK⟩:=zE (((V.setCell ⟨D9,0,qu⟩ (Z U f)).setCell ⟨D9,1,qu⟩ (Z U d)).setCell ⟨D9,2,qu⟩ (Z U (-1)));go_simp;(try rw[rK]);rw[rK] at rI rm;have rx:=rm.heap K (λe=>by omega);have rB:=rm.heap R (λe=>by omega);have rN:S2 W':=sn.out _ ((rn.out V o).trans (rm.below (rn.out V o).size (λq e=>by omega)));refine J _ _ rN ?_;clear J o rm c0 f0 c1 f1 c2 f2 rK;intro th v o;clear A;have A:=(cc v D9 (aa rI)).trans rI;clear K;have K:=(cc v rl (aa rx)).trans rx;clear R;have R:=(cc v rr (aa rB)).trans rB;clear v rI rN rx rB;obtain⟨V,hV⟩:=zE th;rw[hV] at o A K R⊢;clear hV;(try go_simp);refine uO 16 rfl rL.out λK' J=> ?_;obtain⟨rI,rm⟩:=bB K f a (-1);obtain⟨c0,f0⟩:=rowAt K 0 rfl;obtain⟨c1,f1⟩:=rowAt K 1 rfl;obtain⟨c2,f2⟩:=rowAt K 2 rfl;obtain⟨W',rK⟩:=zE (((V.setCell ⟨rl,0,qu⟩ (Z U f)).setCell ⟨rl,1,qu⟩ (Z U a)).setCell ⟨rl,2,qu⟩ (Z U (-1)));go_simp;(try rw[rK]);rw[rK] at rI rm;have rv:=rm.heap A (λe=>by omega);have rB:=rm.heap R (λe=>by omega);have rN:S2 W':=sn.out _ ((rn.out V o).trans (rm.below (rn.out V o).size (λq e=>by omega)));refine J _ _ rN ?_;clear J o rm c0 f0 c1 f1 c2 f2 rK;intro ti v o;clear A;have A:=(cc v D9 (aa rv)).trans rv;clear K;have K:=(cc v rl (aa rI)).trans rI;clear R;have R:=(cc v rr (aa rB)).trans rB;clear v rI rN rv rB;obtain⟨V,hV⟩:=zE ti;rw[hV] at o A K R⊢;clear hV;(try go_simp);refine uO 17 rfl rL.out λK' J=> ?_;obtain⟨rI,rm⟩:=bB R f b (-1);obtain⟨c0,f0⟩:=rowAt R 0 rfl;obtain⟨c1,f1⟩:=rowAt R 1 rfl;obtain⟨c2,f2⟩:=rowAt R 2 rfl;obtain⟨W',rK⟩:=zE (((V.setCell ⟨rr,0,qu⟩ (Z U f)).setCell ⟨rr,1,qu⟩ (Z U b)).setCell ⟨rr,2,qu⟩ (Z U (-1)));go_simp;(try rw[rK]);rw[rK] at rI rm;have rv:=rm.heap A (λe=>by omega);have rx:=rm.heap K (λe=>by omega);have rN:S2 W':=sn.out _ ((rn.out V o).trans (rm.below (rn.out V o).size (λq e=>by omega)));refine J _ _ rN ?_;clear J o rm c0 f0 c1 f1 c2 f2 rK;intro tj v o;clear A;have A:=(cc v D9 (aa rv)).trans rv;clear K;have K:=(cc v rl (aa rx)).trans rx;clear R;have R:=(cc v rr (aa rI)).trans rI;clear v rI rN rv rx;obtain⟨V,hV⟩:=zE tj;rw[hV] at o A K R⊢;clear hV;(try go_simp);refine⟨by kernel_rfl, ?_⟩;go_wp2
    go_meet
    case rel=>exact⟨D9,rl,rr,rfl,rfl,rfl,rn.out V o,((rn.out V o).block D (aa sL.out)).trans sL.out,A,K,R,tn,tp,tr⟩
  ·refine uJ 14 rfl (λK' J=> ?_) rL.out
   go_simp;obtain⟨rr,sk⟩:=zE V.heap.size;(try rw[sk]);have tr:W1.heap.size<=rr:=by rw[<-sk];exact(rn.out V o).size
   have rB:(V.alloc (rj #[Z U 0,Z U 0,Z U 0] 164)).heap[rr]?=qt (rj #[Z U 0,Z U 0,Z U 0] 164 (0,0)):=by rw[<-sk];exact alloc_at _ _
   refine J _ _ (rL.out _ _ o ((an _ _).alloc (bp _) _)) ?_;clear J o;intro tA v o;have R:=(cc v rr (aa rB)).trans rB;clear v rB sk;obtain⟨V,hV⟩:=zE tA;rw[hV] at o R⊢;clear hV;(try go_simp);refine DY 12 13 ?_ ?_
   ·refine uJ 12 rfl (λK' J=> ?_) rL.out
    go_simp;obtain⟨D9,rS⟩:=zE V.heap.size;(try rw[rS]);have tn:W1.heap.size<=D9:=by rw[<-rS];exact(rn.out V o).size
    have rv:(V.alloc (rj #[Z U 0,Z U 0,Z U 0] 164)).heap[D9]?=qt (rj #[Z U 0,Z U 0,Z U 0] 164 (0,0)):=by rw[<-rS];exact alloc_at _ _
    have Ds:rr<D9:=by rw[<-rS];exact aa R
    have rB:=(bt V (rj #[Z U 0,Z U 0,Z U 0] 164) rr (aa R)).trans R;refine J _ _ (rL.out _ _ o ((an _ _).alloc (bp _) _)) ?_;clear J o;intro tv v o;clear R;have R:=(cc v rr (aa rB)).trans rB;have A:=(cc v D9 (aa rv)).trans rv;clear v rB rv rS;obtain⟨V,hV⟩:=zE tv;rw[hV] at o R A⊢;clear hV;(try go_simp);refine uO 13 rfl rL.out λK' J=> ?_;go_simp;obtain⟨rl,se⟩:=zE V.heap.size;(try rw[se]);have tp:W1.heap.size<=rl:=by rw[<-se];exact(rn.out V o).size
    have rx:(V.alloc (rj #[Z U 0,Z U 0,Z U 0] 164)).heap[rl]?=qt (rj #[Z U 0,Z U 0,Z U 0] 164 (0,0)):=by rw[<-se];exact alloc_at _ _
    have Dg:rr<rl:=by rw[<-se];exact aa R
    have rB:=(bt V (rj #[Z U 0,Z U 0,Z U 0] 164) rr (aa R)).trans R;have C6:D9<rl:=by rw[<-se];exact aa A
    have rv:=(bt V (rj #[Z U 0,Z U 0,Z U 0] 164) D9 (aa A)).trans A;refine J _ _ (rL.out _ _ o ((an _ _).alloc (bp _) _)) ?_;clear J o;intro tz v o;clear R;have R:=(cc v rr (aa rB)).trans rB;clear A;have A:=(cc v D9 (aa rv)).trans rv;have K:=(cc v rl (aa rx)).trans rx;clear v rB rv rx se;obtain⟨V,hV⟩:=zE tz;rw[hV] at o R A K⊢;clear hV;(try go_simp);refine uO 15 rfl rL.out λK' J=> ?_;obtain⟨rI,rm⟩:=bB A f d (-1);obtain⟨c0,f0⟩:=rowAt A 0 rfl;obtain⟨c1,f1⟩:=rowAt A 1 rfl;obtain⟨c2,f2⟩:=rowAt A 2 rfl;obtain⟨W',rK⟩:=zE (((V.setCell ⟨D9,0,qu⟩ (Z U f)).setCell ⟨D9,1,qu⟩ (Z U d)).setCell ⟨D9,2,qu⟩ (Z U (-1)));go_simp;(try rw[rK]);rw[rK] at rI rm;have rx:=rm.heap K (λe=>by omega);have rB:=rm.heap R (λe=>by omega);have rN:S2 W':=sn.out _ ((rn.out V o).trans (rm.below (rn.out V o).size (λq e=>by omega)));refine J _ _ rN ?_;clear J o rm c0 f0 c1 f1 c2 f2 rK;intro th v o;clear A;have A:=(cc v D9 (aa rI)).trans rI;clear K;have K:=(cc v rl (aa rx)).trans rx;clear R;have R:=(cc v rr (aa rB)).trans rB;clear v rI rN rx rB;obtain⟨V,hV⟩:=zE th;rw[hV] at o A K R⊢;clear hV;(try go_simp);refine uO 16 rfl rL.out λK' J=> ?_;obtain⟨rI,rm⟩:=bB K f a (-1);obtain⟨c0,f0⟩:=rowAt K 0 rfl;obtain⟨c1,f1⟩:=rowAt K 1 rfl;obtain⟨c2,f2⟩:=rowAt K 2 rfl;obtain⟨W',rK⟩:=zE (((V.setCell ⟨rl,0,qu⟩ (Z U f)).setCell ⟨rl,1,qu⟩ (Z U a)).setCell ⟨rl,2,qu⟩ (Z U (-1)));go_simp;(try rw[rK]);rw[rK] at rI rm;have rv:=rm.heap A (λe=>by omega);have rB:=rm.heap R (λe=>by omega);have rN:S2 W':=sn.out _ ((rn.out V o).trans (rm.below (rn.out V o).size (λq e=>by omega)));refine J _ _ rN ?_;clear J o rm c0 f0 c1 f1 c2 f2 rK;intro ti v o;clear A;have A:=(cc v D9 (aa rv)).trans rv;clear K;have K:=(cc v rl (aa rI)).trans rI;clear R;have R:=(cc v rr (aa rB)).trans rB;clear v rI rN rv rB;obtain⟨V,hV⟩:=zE ti;rw[hV] at o A K R⊢;clear hV;(try go_simp);refine uO 17 rfl rL.out λK' J=> ?_;obtain⟨rI,rm⟩:=bB R f b (-1);obtain⟨c0,f0⟩:=rowAt R 0 rfl;obtain⟨c1,f1⟩:=rowAt R 1 rfl;obtain⟨c2,f2⟩:=rowAt R 2 rfl;obtain⟨W',rK⟩:=zE (((V.setCell ⟨rr,0,qu⟩ (Z U f)).setCell ⟨rr,1,qu⟩ (Z U b)).setCell ⟨rr,2,qu⟩ (Z U (-1)));go_simp;(try rw[rK]);rw[rK] at rI rm;have rv:=rm.heap A (λe=>by omega);have rx:=rm.heap K (λe=>by omega);have rN:S2 W':=sn.out _ ((rn.out V o).trans (rm.below (rn.out V o).size (λq e=>by omega)));refine J _ _ rN ?_;clear J o rm c0 f0 c1 f1 c2 f2 rK;intro tj v o;clear A;have A:=(cc v D9 (aa rv)).trans rv;clear K;have K:=(cc v rl (aa rx)).trans rx;clear R;have R:=(cc v rr (aa rI)).trans rI;clear v rI rN rv rx;obtain⟨V,hV⟩:=zE tj;rw[hV] at o A K R⊢;clear hV;(try go_simp);refine⟨by kernel_rfl, ?_⟩;go_wp2
    go_meet
    case rel=>exact⟨D9,rl,rr,rfl,rfl,rfl,rn.out V o,((rn.out V o).block D (aa sL.out)).trans sL.out,A,K,R,tn,tp,tr⟩
   ·refine uJ 13 rfl (λK' J=> ?_) rL.out
    go_simp;obtain⟨rl,se⟩:=zE V.heap.size;(try rw[se]);have tp:W1.heap.size<=rl:=by rw[<-se];exact(rn.out V o).size
    have rx:(V.alloc (rj #[Z U 0,Z U 0,Z U 0] 164)).heap[rl]?=qt (rj #[Z U 0,Z U 0,Z U 0] 164 (0,0)):=by rw[<-se];exact alloc_at _ _
    have Dg:rr<rl:=by rw[<-se];exact aa R
    have rB:=(bt V (rj #[Z U 0,Z U 0,Z U 0] 164) rr (aa R)).trans R;refine J _ _ (rL.out _ _ o ((an _ _).alloc (bp _) _)) ?_;clear J o;intro tz v o;clear R;have R:=(cc v rr (aa rB)).trans rB;have K:=(cc v rl (aa rx)).trans rx;clear v rB rx se;obtain⟨V,hV⟩:=zE tz;rw[hV] at o R K⊢;clear hV;(try go_simp);refine uO 12 rfl rL.out λK' J=> ?_;go_simp;obtain⟨D9,rS⟩:=zE V.heap.size;(try rw[rS]);have tn:W1.heap.size<=D9:=by rw[<-rS];exact(rn.out V o).size
    have rv:(V.alloc (rj #[Z U 0,Z U 0,Z U 0] 164)).heap[D9]?=qt (rj #[Z U 0,Z U 0,Z U 0] 164 (0,0)):=by rw[<-rS];exact alloc_at _ _
    have Ds:rr<D9:=by rw[<-rS];exact aa R
    have rB:=(bt V (rj #[Z U 0,Z U 0,Z U 0] 164) rr (aa R)).trans R;have Do:rl<D9:=by rw[<-rS];exact aa K
    have rx:=(bt V (rj #[Z U 0,Z U 0,Z U 0] 164) rl (aa K)).trans K;refine J _ _ (rL.out _ _ o ((an _ _).alloc (bp _) _)) ?_;clear J o;intro tv v o;clear R;have R:=(cc v rr (aa rB)).trans rB;clear K;have K:=(cc v rl (aa rx)).trans rx;have A:=(cc v D9 (aa rv)).trans rv;clear v rB rx rv rS;obtain⟨V,hV⟩:=zE tv;rw[hV] at o R K A⊢;clear hV;(try go_simp);refine uO 15 rfl rL.out λK' J=> ?_;obtain⟨rI,rm⟩:=bB A f d (-1);obtain⟨c0,f0⟩:=rowAt A 0 rfl;obtain⟨c1,f1⟩:=rowAt A 1 rfl;obtain⟨c2,f2⟩:=rowAt A 2 rfl;obtain⟨W',rK⟩:=zE (((V.setCell ⟨D9,0,qu⟩ (Z U f)).setCell ⟨D9,1,qu⟩ (Z U d)).setCell ⟨D9,2,qu⟩ (Z U (-1)));go_simp;(try rw[rK]);rw[rK] at rI rm;have rx:=rm.heap K (λe=>by omega);have rB:=rm.heap R (λe=>by omega);have rN:S2 W':=sn.out _ ((rn.out V o).trans (rm.below (rn.out V o).size (λq e=>by omega)));refine J _ _ rN ?_;clear J o rm c0 f0 c1 f1 c2 f2 rK;intro th v o;clear A;have A:=(cc v D9 (aa rI)).trans rI;clear K;have K:=(cc v rl (aa rx)).trans rx;clear R;have R:=(cc v rr (aa rB)).trans rB;clear v rI rN rx rB;obtain⟨V,hV⟩:=zE th;rw[hV] at o A K R⊢;clear hV;(try go_simp);refine uO 16 rfl rL.out λK' J=> ?_;obtain⟨rI,rm⟩:=bB K f a (-1);obtain⟨c0,f0⟩:=rowAt K 0 rfl;obtain⟨c1,f1⟩:=rowAt K 1 rfl;obtain⟨c2,f2⟩:=rowAt K 2 rfl;obtain⟨W',rK⟩:=zE (((V.setCell ⟨rl,0,qu⟩ (Z U f)).setCell ⟨rl,1,qu⟩ (Z U a)).setCell ⟨rl,2,qu⟩ (Z U (-1)));go_simp;(try rw[rK]);rw[rK] at rI rm;have rv:=rm.heap A (λe=>by omega);have rB:=rm.heap R (λe=>by omega);have rN:S2 W':=sn.out _ ((rn.out V o).trans (rm.below (rn.out V o).size (λq e=>by omega)));refine J _ _ rN ?_;clear J o rm c0 f0 c1 f1 c2 f2 rK;intro ti v o;clear A;have A:=(cc v D9 (aa rv)).trans rv;clear K;have K:=(cc v rl (aa rI)).trans rI;clear R;have R:=(cc v rr (aa rB)).trans rB;clear v rI rN rv rB;obtain⟨V,hV⟩:=zE ti;rw[hV] at o A K R⊢;clear hV;(try go_simp);refine uO 17 rfl rL.out λK' J=> ?_;obtain⟨rI,rm⟩:=bB R f b (-1);obtain⟨c0,f0⟩:=rowAt R 0 rfl;obtain⟨c1,f1⟩:=rowAt R 1 rfl;obtain⟨c2,f2⟩:=rowAt R 2 rfl;obtain⟨W',rK⟩:=zE (((V.setCell ⟨rr,0,qu⟩ (Z U f)).setCell ⟨rr,1,qu⟩ (Z U b)).setCell ⟨rr,2,qu⟩ (Z U (-1)));go_simp;(try rw[rK]);rw[rK] at rI rm;have rv:=rm.heap A (λe=>by omega);have rx:=rm.heap K (λe=>by omega);have rN:S2 W':=sn.out _ ((rn.out V o).trans (rm.below (rn.out V o).size (λq e=>by omega)));refine J _ _ rN ?_;clear J o rm c0 f0 c1 f1 c2 f2 rK;intro tj v o;clear A;have A:=(cc v D9 (aa rv)).trans rv;clear K;have K:=(cc v rl (aa rx)).trans rx;clear R;have R:=(cc v rr (aa rI)).trans rI;clear v rI rN rv rx;obtain⟨V,hV⟩:=zE tj;rw[hV] at o A K R⊢;clear hV;(try go_simp);refine⟨by kernel_rfl, ?_⟩;go_wp2
    go_meet
    case rel=>exact⟨D9,rl,rr,rfl,rfl,rfl,rn.out V o,((rn.out V o).block D (aa sL.out)).trans sL.out,A,K,R,tn,tp,tr⟩
 case rest=>
  obtain⟨D9,rl,rr,rfl,rfl,rfl,hN⟩:=hcut;have AS:aq w.heap.size w wc:=C5.out.trans (hN.below.mono C5.out.size);have hP:=H.out.grow AS;have i0:=(rowAt hN.ins 0 (u:= Z U op) (by rw[<-wi.out];rfl)).1;have wj:∀k,w.heap.size<=k->tg k= .no:=λk hk=>eq λe=>by have:=(H.out.lo k e).2;omega
  have At:=EU.out;have DA:=wj D9 (by have:=hN.l9;omega);have DB:=wj rl (by have:=hN.l10;omega);have DE:=wj rr (by have:=hN.l11;omega);have DG:=wj D (by omega);have HN:=zH hN;have tB:=zH AS;have HP:=zH hP;have AD:=zH DA;have AE:=zH DB;have DH:=zH DE;have wk:=zH DG;clear hN AS hP wj At DA DB DE DG o tU Ax C4 sf rL sn rn
  by_cases AT:op=12
  ·subst AT
   obtain⟨j0,wl,wn,ws,wx⟩:=ld yX;have t0:wc.cell? ⟨T,2,qu⟩=qt (ra s.siA p.St.length s.siK):=(rowAt HP.out.row 2 rfl).1;have EZ:T<wc.heap.size:=aa HP.out.row;obtain⟨N,hN⟩:=zE wc.heap.size;have DM:∀k,(bx s.siA p.St.length s.siK).ownBlock=qt k->k≠T/\tg k= .si/\k<wc.heap.size:=λk hk=>⟨λe=>by have:=HP.out.t5 k hk;rw[e,HP.out.t1] at this;simp at this,HP.out.t5 k hk,(HP.out.srow.lt k hk).2⟩
   have E0:=zH DM;have E3:B<=wc.heap.size:=HP.out.base;clear DM
   go_upto_region 6 with(at_builtin;refine gq rfl (.tmp 36) (.tmp 40) 62 rfl B 67 j0 _ 2 16 pm wl wn ws wx rfl (by decide) _ p.St.length (p.St.flatMap Cy) rfl HP.out.srow N #[Z U f,Z U k] hN.symm rfl rfl (by simp[br]) (by unfold dl;omega) (by omega) (by omega) ?_;intro v9 w9 tD sx DO;obtain⟨ue,c9,xf⟩:=av tD;subst xf;have A:=sx.heap HP.out.row (λe=>(E0.out T e).1 rfl);obtain⟨t9,E4⟩:=rowAt A 2 (u:= ra s.siA p.St.length s.siK) rfl;have E5:=zH tD;have E6:=zH sx;have E7:=zH DO;clear tD sx DO A)
   have DP:=HP.out.sited (q:=(f,k)) (by omega) (Ext.refl _ _) E6.out E5.out E7.out;obtain⟨W9,DQ⟩:=zE (w9.setCell ⟨T,2,qu⟩ (ra ue (p.St.length+1) c9));rw[DQ] at DP⊢;obtain⟨Fm,s5,AW,A0,DS⟩:=DP;obtain⟨p5,wb⟩:=zE ({p with St:=p.St++[(f,k)]}:PS);rw[wb] at AW;obtain⟨n,hn⟩:=zE p.St.length;have D0:p5.St.length=n+1:=by rw[<-wb,<-hn];simp
   have A:=A0.heap HN.out.r9 (λe=>e.1 AD.out);obtain⟨V,hV⟩:=zE W9.drew;have sr:aq W9.heap.size W9 V:=by rw[<-hV];exact(an _ _).drew
   have sX:=AW.grow sr;have D1:=(sr.block D9 (aa A)).trans A;have E8:ca (Ext (λk=>tg k≠ .no/\¬ZA (tg k)) wc V):=A0.trans (Ext.of_below_size (M:=λ_=>jp) sr) (λ_ h=>h.elim);have E9:=zH DS;obtain⟨S5,sB⟩:=zE ((λW=>W=V):World->Prop);have o:S5 V:=by rw[<-sB]
   have sf:ca (∀W,S5 W->W.cell? ⟨T,2,qu⟩=qt (ra s5.siA (n+1) s5.siK)/\T<W.heap.size):=λW hW=>by
    rw[<-sB] at hW;have:V.cell? ⟨T,2,qu⟩=qt (ra s5.siA p5.St.length s5.siK):=(rowAt sX.row 2 rfl).1;rw[D0] at this;rw[hW];exact⟨this,aa sX.row⟩
   have xj:ca (∀W,S5 W->∀j u,(#[Z U f,Z U d,Z U (-1)]:cG bw).toList[j]?=qt u->W.cell? ((⟨D9,0,qu⟩:oA).add j)=qt u):=λW hW=>by
    rw[<-sB] at hW;rw[hW];exact aO D1
   have Fa:=zH (ku V sX (n1:=f) (n2:=d) (n3:= -1) (bK HX.out.1 HX.out.2.2.1) (x:=n) (by omega) (by rw[<-wb];show p.H.length+1<=_;omega) (by rw[<-wb];show p.td.length+1<=_;omega));have sq:=zH sX;have tl:=zH hV;have Fb:=zH wb;have Fc:=zH hn;have Fo:qr.wrap (n:cj)=(n:cj):=by rw[IntKind.wrap_i64];omega
   clear t9 E4 DQ AW A0 DS D0 A hV sr sX D1 sB t0 EZ E3 i0 hn wb;refine ah 8 S5 (by kernel_rfl) ?_;rw[tl.out];refine zT 0 rfl sf.out ?_;(try go_simp);refine zL 1 rfl 164 ⟨D9,0,qu⟩ xj.out cD ?_;(try go_simp);refine zT 2 rfl sf.out ?_;(try go_simp);refine zT 3 rfl sf.out ?_;(try go_simp);refine zT 4 rfl sf.out ?_;(try go_simp);refine zT 5 rfl sf.out ?_;(try go_simp);refine zT 6 rfl sf.out ?_;(try go_simp);refine zT 7 rfl sf.out ?_;(try go_simp);refine zK rfl λK' J=> ?_;go_simp;go_at_call 120;refine Fa.out.mono ?_;rintro e w2 ⟨rfl,xl⟩;have A1:=zH xl;clear xl;refine J _ _ ?_;clear J;refine⟨by kernel_rfl, ?_⟩;go_wp2
   go_end0
   refine⟨rfl,p5.add (aQ f d) n, ?_, ?_⟩
   ·rw[<-Fb.out,<-Fc.out]
    exact Er p f k _ rfl
   ·refine bn.below tB.out ?_
    exact(bn.step E8.out E9.out A1.out).weak λ_ h=>h.elim
  have Fp:((op:cj)==12)=qS:=eM AT
  by_cases h9:op=9
  ·subst h9
   obtain⟨a0,a1,a2⟩:=(show wc.cell? ⟨rl,0,qu⟩=qt (Z U f)/\wc.cell? ⟨rl,1,qu⟩=qt (Z U a)/\wc.cell? ⟨rl,2,qu⟩=qt (Z U (-1)) from⟨(rowAt HN.out.r10 0 rfl).1,(rowAt HN.out.r10 1 rfl).1,(rowAt HN.out.r10 2 rfl).1⟩)
   obtain⟨b0,b1,b2⟩:=(show wc.cell? ⟨D9,0,qu⟩=qt (Z U f)/\wc.cell? ⟨D9,1,qu⟩=qt (Z U d)/\wc.cell? ⟨D9,2,qu⟩=qt (Z U (-1)) from⟨(rowAt HN.out.r9 0 rfl).1,(rowAt HN.out.r9 1 rfl).1,(rowAt HN.out.r9 2 rfl).1⟩)
   have ur:=zH (dW wc HP.out (n1:=f) (n2:=a) (n3:= -1) (m1:=f) (m2:=d) (m3:= -1) (bK HX.out.1 HX.out.2.2.2.1) (bK HX.out.1 HX.out.2.2.1) (λn y h=>cE (AN.out n y h) (by decide)) (by omega) (by omega) (by omega))
   go_wp2_with (go_at_call 119;refine ur.out.mono ?_;rintro e w2 ⟨rfl,p',D2,xl⟩;have A1:=zH xl;have Fe:=zH D2;clear xl D2)
   go_end0
   refine⟨rfl,p', ?_, ?_⟩
   ·exact vH (by simp) (by simp) (by simp) ⟨p',Fe.out,rfl⟩
   ·exact bn.below tB.out (A1.out.weak λ_ h=>h.elim)
  have e9:((op:cj)==9)=qS:=eM h9
  by_cases A2:op=10
  ·subst A2
   have hn:fV (f,a,-1):=bK HX.out.1 HX.out.2.2.2.1
   go_upto_region 10 with(fail)
   obtain⟨j0,wl,wn,ws,wx⟩:=ld xn;obtain⟨V,hV⟩:=zE wc.drew;have sr:aq wc.heap.size wc V:=by rw[<-hV];exact(an _ _).drew
   have sX:=HP.out.grow sr;have uv:=(sr.block D (aa HN.out.ins)).trans HN.out.ins;have ux:=(sr.block rl (aa HN.out.r10)).trans HN.out.r10;have va:=(sr.block D9 (aa HN.out.r9)).trans HN.out.r9;obtain⟨tE,tG⟩:=zE (zC m HM FM GM s p.St.length p.td.length);have vc:V.heap[T]?=qt (rj tE 148 (0,0)):=by rw[<-tG];exact sX.row
   have xo:tE[5]?=qt (.map (qt GM)):=by rw[<-tG];rfl
   obtain⟨S2,sT⟩:=zE ((λw'=>w'.heap[T]?=qt (rj tE 148 (0,0))/\w'.heap[D]?=qt (rj ic 42 (0,0))/\w'.heap[rl]?=qt (rj #[Z U f,Z U a,Z U (-1)] 164 (0,0))/\w'.heap[D9]?=qt (rj #[Z U f,Z U d,Z U (-1)] 164 (0,0))):World->Prop);have rn:ca (∀W,W.heap[T]?=qt (rj tE 148 (0,0))->W.heap[D]?=qt (rj ic 42 (0,0))->W.heap[rl]?=qt (rj #[Z U f,Z U a,Z U (-1)] 164 (0,0))->W.heap[D9]?=qt (rj #[Z U f,Z U d,Z U (-1)] 164 (0,0))->S2 W):=λW a b c d=>by rw[<-sT];exact⟨a,b,c,d⟩
   have sy:ca (∀w,S2 w->w.cell? ⟨T,5,qu⟩=qt (.map (qt GM))/\T<w.heap.size/\D<w.heap.size/\w.cell? ⟨D,4,qu⟩=qt (Z U ff)):=λw hw=>by rw[<-sT] at hw;exact⟨(rowAt hw.1 5 xo).1,aa hw.1,aa hw.2.1,(rowAt hw.2.1 4 (by rw[<-wi.out];rfl)).1⟩
   have xp:ca (∀W,S2 W->∀j u,(#[Z U f,Z U a,Z U (-1)]:cG bw).toList[j]?=qt u->W.cell? ((⟨rl,0,qu⟩:oA).add j)=qt u):=λW hW=>by
    rw[<-sT] at hW;exact aO hW.2.2.1
   have xr:ca (∀W,S2 W->∀j u,(#[Z U f,Z U d,Z U (-1)]:cG bw).toList[j]?=qt u->W.cell? ((⟨D9,0,qu⟩:oA).add j)=qt u):=λW hW=>by
    rw[<-sT] at hW;exact aO hW.2.2.2
   have A3:S2 V:=rn.out _ vc uv ux va;have vd:=zH vc;have A4:=zH tG;have sL:=zH uv;have xt:=zH ux;have xF:=zH va;have sq:=zH sX;have tl:=zH hV;have A5:=zH sr;obtain⟨ao,cap,xT,tf,ya⟩:=sX.gs _ hn;have tM:=zH xT;have A6:=zH tf;have Bk:=zH ya;have Ff:(p.gl (f,a,-1)).length<=400:=by
    unfold PS.gl;rw[dj];exact cE (ke _ _) lG
   clear sT vc xo tG uv ux va sX hV sr xT tf ya;refine ah 14 S2 (by kernel_rfl) ?_;rw[tl.out];refine zT 0 rfl sy.out ?_;(try go_simp);refine zT 1 rfl sy.out ?_;(try go_simp);refine zT 2 rfl sy.out ?_;(try go_simp);refine zT 3 rfl sy.out ?_;(try go_simp);refine zL 4 rfl 164 ⟨rl,0,qu⟩ xp.out cD ?_;(try go_simp);refine zT 5 rfl sy.out ?_;(try go_simp);refine zT 6 rfl sy.out ?_;(try go_simp);refine zL 7 rfl 164 ⟨D9,0,qu⟩ xr.out cD ?_;(try go_simp);refine zT 8 rfl sy.out ?_;(try go_simp);refine zO 9 rfl λK' J=> ?_;go_simp;obtain⟨G,hG⟩:=zE V.heap.size;obtain⟨W8,tP⟩:=zE (V.alloc (rj #[Z U ff,Z U f,Z U d,Z U (-1),re qS] 213));(try rw[hG]);(try rw[tP]);have sE:aq V.heap.size V W8:=by rw[<-tP];exact(an _ _).alloc (bp _) _
   have yb:W8.heap[G]?=qt (rj #[Z U ff,Z U f,Z U d,Z U (-1),re qS] 213 (0,0)):=by rw[<-tP,<-hG];exact alloc_at _ _
   have vf:=(sE.block T (aa vd.out)).trans vd.out;have vh:=(sE.block D (aa sL.out)).trans sL.out;have vi:=(sE.block rl (aa xt.out)).trans xt.out;have vj:=(sE.block D9 (aa xF.out)).trans xF.out;have h8:=sq.out.grow sE;refine J _ _ (rn.out _ vf vh vi vj) ?_;clear J;(try go_simp);refine zO 10 rfl λK' J=> ?_;obtain⟨c0,q0⟩:=h8.gm;obtain⟨W9,st,tR,sx,vm,yd⟩:=q0.entry jF ox (qm W8) hn;unfold jE at tR;rw[tM.out] at tR;go_simp;(try simp only[tR]);(try go_simp);have Fg:GM<V.heap.size:=(sq.out.lo GM (by rw[sq.out.t4];simp)).2;have Bm:¬T=GM:=λe=>by have:=sq.out.t1;rw[e,sq.out.t4] at this;simp at this
   have By:¬D=GM:=λe=>by have:=wk.out;rw[e,sq.out.t4] at this;simp at this
   have BE:¬rl=GM:=λe=>by have:=AE.out;rw[e,sq.out.t4] at this;simp at this
   have BT:¬D9=GM:=λe=>by have:=AD.out;rw[e,sq.out.t4] at this;simp at this
   have sR:∀q,(bx ao (p.gl (f,a,-1)).length cap).ownBlock=qt q->q≠T/\q≠GM/\q<V.heap.size/\q≠D/\q≠rl/\q≠D9:=λq hq=>by
    have z:=Bk.out q (by rw[tM.out];exact hq);have tm:∀x,tg x≠ .gl (f,a,-1)->q≠x:=λx h e=>h (by rw[<-e];exact z);exact⟨tm _ (by rw[sq.out.t1];simp),tm _ (by rw[sq.out.t4];simp),(sq.out.lo q (by rw[z];simp)).2,tm _ (by rw[wk.out];simp),tm _ (by rw[AE.out];simp),tm _ (by rw[AD.out];simp)⟩
   have vn:=sx.heap vf Bm;have vp:=sx.heap vh By;have rS:=sx.heap vi BE;have vq:=sx.heap vj BT;have tf:=A6.out;rw[tM.out] at tf;have ye:=ae tf (Ext.of_below_size (M:=λ_=>jp) sE) (λ_ _ h=>h);have tD:=ae ye sx (λq hq e=>(sR q hq).2.1 e);have yi:=sx.heap yb (λe=>by omega);have yk:S2 W9:=rn.out _ vn vp rS vq;refine J _ _ yk ?_;clear J;(try go_simp);refine zT 11 rfl sy.out ?_;(try go_simp);refine zT 13 rfl sy.out ?_;(try go_simp);refine zO 12 rfl λK' J=> ?_;have yp:B<=W9.heap.size:=cE sq.out.base (cE sE.size sx.size);have yq:(p.gl (f,a,-1)).length+1<=dl:=by unfold dl;omega
   refine aB (.tmp 66) (.tmp 71) 211 rfl B 213 j0 _ 5 40 underlying211 wl wn ws wx rfl (by decide) (ra ao (p.gl (f,a,-1)).length cap) (p.gl (f,a,-1)).length ((p.gl (f,a,-1)).flatMap DW) rfl tD (qt ⟨G,0,qu⟩) 1 1 [Z U ff,Z U f,Z U d,Z U (-1),re qS] rfl rfl (λh=>by cases h) (λad BY j u hu=>by
    obtain rfl:(⟨G,0,qu⟩:oA)=ad:=by simpa using BY
    rw[cM,cH,bh _ _ _ _ _ _ yi];simpa using hu) (by simp[br]) yq (by omega) yp ?_
   intro Fh yr vr yv vt;obtain⟨ue,c9,xf⟩:=av vr;subst xf;have sY:Ext (λq=>(bx ao (p.gl (f,a,-1)).length cap).ownBlock=qt q) W9 yr:=Ext.of_grown yv (λq hq=> .inl hq);have yy:=sY.heap vn (λe=>(sR _ e).1 rfl);have yW:=sY.heap vp (λe=>(sR _ e).2.2.2.1 rfl);have se:=sY.heap rS (λe=>(sR _ e).2.2.2.2.1 rfl);have zc:=sY.heap vq (λe=>(sR _ e).2.2.2.2.2 rfl);refine J _ _ (rn.out _ yy yW se zc) ?_;clear J;(try go_simp);refine zK rfl λK' J=> ?_;obtain⟨B4,zd,zj,vu⟩:=yd yr (ra ue ((p.gl (f,a,-1)).length+1) c9) (sY.block GM vm.lt (λe=>(sR _ e).2.1 rfl));go_simp;(try simp only[zd]);(try go_simp);refine J _ _ ?_;clear J zd tR yd;refine⟨by kernel_rfl, ?_⟩;have vx:Ext (λq=>q=GM\/(bx ao (p.gl (f,a,-1)).length cap).ownBlock=qt q) V W9:=Ext.trans (Ext.of_below_size (M:=λq=>q=GM\/(bx ao (p.gl (f,a,-1)).length cap).ownBlock=qt q) sE) (sx.mono (λq e=> .inl e)) (λq e=> .inl e);have zp:Ext (λq=>q=GM\/(bx ao (p.gl (f,a,-1)).length cap).ownBlock=qt q) V B4:=(vx.trans (sY.mono (λq e=> .inr e)) (λq e=> .inl e)).trans (vu.mono (λq e=> .inl e)) (λq e=> .inl e);have zr:∀q,(bx ue ((p.gl (f,a,-1)).length+1) c9).ownBlock=qt q->(bx ao (p.gl (f,a,-1)).length cap).ownBlock=qt q\/V.heap.size<=q:=λq hq=>by
    rcases vt q hq with z|z
    ·exact .inl z
    ·exact .inr (cE vx.size z)
   have zv:=ae vr vu (λq hq e=>by
    rcases vt q hq with z|z
    ·exact(sR q z).2.1 e
    ·have:=vm.lt
     omega)
   have tS:=zH (sq.out.gotten (b:=(ff,(f,d,-1),qS)) hn tM.out zp zj zv zr);clear yk yy yW se zc sY yv vt yq yp yi tD ye vn vp rS vq sR tf sx vm q0 h8 vf vh vi vj yb sE tP hG A3 xr xp sy rn vd A4 vx zp zr zv vr vu zj;go_wp2
   go_end0
   refine⟨rfl,_,Ci p f k _ (ff,(f,d,-1),qS) (by simp) (by simp) (by simp) (by simp) (by simp[kR,aQ]), ?_⟩;exact bn.below tB.out (bn.below A5.out tS.out)
  have Fq:((op:cj)==10)=qS:=eM A2
  by_cases B5:op=11
  ·subst B5
   have hn:fV (f,a,-1):=bK HX.out.1 HX.out.2.2.2.1
   go_upto_region 12 with(fail)
   obtain⟨j0,wl,wn,ws,wx⟩:=ld xn;obtain⟨V,hV⟩:=zE wc.drew;have sr:aq wc.heap.size wc V:=by rw[<-hV];exact(an _ _).drew
   have sX:=HP.out.grow sr;have uv:=(sr.block D (aa HN.out.ins)).trans HN.out.ins;have ux:=(sr.block rl (aa HN.out.r10)).trans HN.out.r10;have va:=(sr.block rr (aa HN.out.r11)).trans HN.out.r11;obtain⟨tE,tG⟩:=zE (zC m HM FM GM s p.St.length p.td.length);have vc:V.heap[T]?=qt (rj tE 148 (0,0)):=by rw[<-tG];exact sX.row
   have xo:tE[5]?=qt (.map (qt GM)):=by rw[<-tG];rfl
   obtain⟨S2,sT⟩:=zE ((λw'=>w'.heap[T]?=qt (rj tE 148 (0,0))/\w'.heap[D]?=qt (rj ic 42 (0,0))/\w'.heap[rl]?=qt (rj #[Z U f,Z U a,Z U (-1)] 164 (0,0))/\w'.heap[rr]?=qt (rj #[Z U f,Z U b,Z U (-1)] 164 (0,0))):World->Prop);have rn:ca (∀W,W.heap[T]?=qt (rj tE 148 (0,0))->W.heap[D]?=qt (rj ic 42 (0,0))->W.heap[rl]?=qt (rj #[Z U f,Z U a,Z U (-1)] 164 (0,0))->W.heap[rr]?=qt (rj #[Z U f,Z U b,Z U (-1)] 164 (0,0))->S2 W):=λW a b c d=>by rw[<-sT];exact⟨a,b,c,d⟩
   have sy:ca (∀w,S2 w->w.cell? ⟨T,5,qu⟩=qt (.map (qt GM))/\T<w.heap.size/\D<w.heap.size/\w.cell? ⟨D,4,qu⟩=qt (Z U ff)):=λw hw=>by rw[<-sT] at hw;exact⟨(rowAt hw.1 5 xo).1,aa hw.1,aa hw.2.1,(rowAt hw.2.1 4 (by rw[<-wi.out];rfl)).1⟩
   have xp:ca (∀W,S2 W->∀j u,(#[Z U f,Z U a,Z U (-1)]:cG bw).toList[j]?=qt u->W.cell? ((⟨rl,0,qu⟩:oA).add j)=qt u):=λW hW=>by
    rw[<-sT] at hW;exact aO hW.2.2.1
   have xr:ca (∀W,S2 W->∀j u,(#[Z U f,Z U b,Z U (-1)]:cG bw).toList[j]?=qt u->W.cell? ((⟨rr,0,qu⟩:oA).add j)=qt u):=λW hW=>by
    rw[<-sT] at hW;exact aO hW.2.2.2
   have A3:S2 V:=rn.out _ vc uv ux va;have vd:=zH vc;have A4:=zH tG;have sL:=zH uv;have xt:=zH ux;have xF:=zH va;have sq:=zH sX;have tl:=zH hV;have A5:=zH sr;obtain⟨ao,cap,xT,tf,ya⟩:=sX.gs _ hn;have tM:=zH xT;have A6:=zH tf;have Bk:=zH ya;have Ff:(p.gl (f,a,-1)).length<=400:=by
    unfold PS.gl;rw[dj];exact cE (ke _ _) lG
   clear sT vc xo tG uv ux va sX hV sr xT tf ya;refine ah 14 S2 (by kernel_rfl) ?_;rw[tl.out];refine zT 0 rfl sy.out ?_;(try go_simp);refine zT 1 rfl sy.out ?_;(try go_simp);refine zT 2 rfl sy.out ?_;(try go_simp);refine zT 3 rfl sy.out ?_;(try go_simp);refine zL 4 rfl 164 ⟨rl,0,qu⟩ xp.out cD ?_;(try go_simp);refine zT 5 rfl sy.out ?_;(try go_simp);refine zT 6 rfl sy.out ?_;(try go_simp);refine zL 7 rfl 164 ⟨rr,0,qu⟩ xr.out cD ?_;(try go_simp);refine zT 8 rfl sy.out ?_;(try go_simp);refine zO 9 rfl λK' J=> ?_;go_simp;obtain⟨G,hG⟩:=zE V.heap.size;obtain⟨W8,tP⟩:=zE (V.alloc (rj #[Z U ff,Z U f,Z U b,Z U (-1),re qv] 213));(try rw[hG]);(try rw[tP]);have sE:aq V.heap.size V W8:=by rw[<-tP];exact(an _ _).alloc (bp _) _
   have yb:W8.heap[G]?=qt (rj #[Z U ff,Z U f,Z U b,Z U (-1),re qv] 213 (0,0)):=by rw[<-tP,<-hG];exact alloc_at _ _
   have vf:=(sE.block T (aa vd.out)).trans vd.out;have vh:=(sE.block D (aa sL.out)).trans sL.out;have vi:=(sE.block rl (aa xt.out)).trans xt.out;have vj:=(sE.block rr (aa xF.out)).trans xF.out;have h8:=sq.out.grow sE;refine J _ _ (rn.out _ vf vh vi vj) ?_;clear J;(try go_simp);refine zO 10 rfl λK' J=> ?_;obtain⟨c0,q0⟩:=h8.gm;obtain⟨W9,st,tR,sx,vm,yd⟩:=q0.entry jF ox (qm W8) hn;unfold jE at tR;rw[tM.out] at tR;go_simp;(try simp only[tR]);(try go_simp);have Fg:GM<V.heap.size:=(sq.out.lo GM (by rw[sq.out.t4];simp)).2;have Bm:¬T=GM:=λe=>by have:=sq.out.t1;rw[e,sq.out.t4] at this;simp at this
   have By:¬D=GM:=λe=>by have:=wk.out;rw[e,sq.out.t4] at this;simp at this
   have BE:¬rl=GM:=λe=>by have:=AE.out;rw[e,sq.out.t4] at this;simp at this
   have BT:¬rr=GM:=λe=>by have:=DH.out;rw[e,sq.out.t4] at this;simp at this
   have sR:∀q,(bx ao (p.gl (f,a,-1)).length cap).ownBlock=qt q->q≠T/\q≠GM/\q<V.heap.size/\q≠D/\q≠rl/\q≠rr:=λq hq=>by
    have z:=Bk.out q (by rw[tM.out];exact hq);have tm:∀x,tg x≠ .gl (f,a,-1)->q≠x:=λx h e=>h (by rw[<-e];exact z);exact⟨tm _ (by rw[sq.out.t1];simp),tm _ (by rw[sq.out.t4];simp),(sq.out.lo q (by rw[z];simp)).2,tm _ (by rw[wk.out];simp),tm _ (by rw[AE.out];simp),tm _ (by rw[DH.out];simp)⟩
   have vn:=sx.heap vf Bm;have vp:=sx.heap vh By;have rS:=sx.heap vi BE;have vq:=sx.heap vj BT;have tf:=A6.out;rw[tM.out] at tf;have ye:=ae tf (Ext.of_below_size (M:=λ_=>jp) sE) (λ_ _ h=>h);have tD:=ae ye sx (λq hq e=>(sR q hq).2.1 e);have yi:=sx.heap yb (λe=>by omega);have yk:S2 W9:=rn.out _ vn vp rS vq;refine J _ _ yk ?_;clear J;(try go_simp);refine zT 11 rfl sy.out ?_;(try go_simp);refine zT 13 rfl sy.out ?_;(try go_simp);refine zO 12 rfl λK' J=> ?_;have yp:B<=W9.heap.size:=cE sq.out.base (cE sE.size sx.size);have yq:(p.gl (f,a,-1)).length+1<=dl:=by unfold dl;omega
   refine aB (.tmp 82) (.tmp 87) 211 rfl B 213 j0 _ 5 40 underlying211 wl wn ws wx rfl (by decide) (ra ao (p.gl (f,a,-1)).length cap) (p.gl (f,a,-1)).length ((p.gl (f,a,-1)).flatMap DW) rfl tD (qt ⟨G,0,qu⟩) 1 1 [Z U ff,Z U f,Z U b,Z U (-1),re qv] rfl rfl (λh=>by cases h) (λad BY j u hu=>by
    obtain rfl:(⟨G,0,qu⟩:oA)=ad:=by simpa using BY
    rw[cM,cH,bh _ _ _ _ _ _ yi];simpa using hu) (by simp[br]) yq (by omega) yp ?_
   intro Fh yr vr yv vt;obtain⟨ue,c9,xf⟩:=av vr;subst xf;have sY:Ext (λq=>(bx ao (p.gl (f,a,-1)).length cap).ownBlock=qt q) W9 yr:=Ext.of_grown yv (λq hq=> .inl hq);have yy:=sY.heap vn (λe=>(sR _ e).1 rfl);have yW:=sY.heap vp (λe=>(sR _ e).2.2.2.1 rfl);have se:=sY.heap rS (λe=>(sR _ e).2.2.2.2.1 rfl);have zc:=sY.heap vq (λe=>(sR _ e).2.2.2.2.2 rfl);refine J _ _ (rn.out _ yy yW se zc) ?_;clear J;(try go_simp);refine zK rfl λK' J=> ?_;obtain⟨B4,zd,zj,vu⟩:=yd yr (ra ue ((p.gl (f,a,-1)).length+1) c9) (sY.block GM vm.lt (λe=>(sR _ e).2.1 rfl));go_simp;(try simp only[zd]);(try go_simp);refine J _ _ ?_;clear J zd tR yd;refine⟨by kernel_rfl, ?_⟩;have vx:Ext (λq=>q=GM\/(bx ao (p.gl (f,a,-1)).length cap).ownBlock=qt q) V W9:=Ext.trans (Ext.of_below_size (M:=λq=>q=GM\/(bx ao (p.gl (f,a,-1)).length cap).ownBlock=qt q) sE) (sx.mono (λq e=> .inl e)) (λq e=> .inl e);have zp:Ext (λq=>q=GM\/(bx ao (p.gl (f,a,-1)).length cap).ownBlock=qt q) V B4:=(vx.trans (sY.mono (λq e=> .inr e)) (λq e=> .inl e)).trans (vu.mono (λq e=> .inl e)) (λq e=> .inl e);have zr:∀q,(bx ue ((p.gl (f,a,-1)).length+1) c9).ownBlock=qt q->(bx ao (p.gl (f,a,-1)).length cap).ownBlock=qt q\/V.heap.size<=q:=λq hq=>by
    rcases vt q hq with z|z
    ·exact .inl z
    ·exact .inr (cE vx.size z)
   have zv:=ae vr vu (λq hq e=>by
    rcases vt q hq with z|z
    ·exact(sR q z).2.1 e
    ·have:=vm.lt
     omega)
   have tS:=zH (sq.out.gotten (b:=(ff,(f,b,-1),qv)) hn tM.out zp zj zv zr);clear yk yy yW se zc sY yv vt yq yp yi tD ye vn vp rS vq sR tf sx vm q0 h8 vf vh vi vj yb sE tP hG A3 xr xp sy rn vd A4 vx zp zr zv vr vu zj;go_wp2
   go_end0
   refine⟨rfl,_,Ci p f k _ (ff,(f,b,-1),qv) (by simp) (by simp) (by simp) (by simp) (by simp[kR,aQ]), ?_⟩;exact bn.below tB.out (bn.below A5.out tS.out)
  have Fr:((op:cj)==11)=qS:=eM B5
  by_cases B6:op=15
  ·subst B6
   have i7:=(rowAt HN.out.ins 7 (u:= ra ga args.length gc) (by rw[<-wi.out];rfl)).1;have Fs:args.length<=40:=HX.out.2.2.2.2.2.2.2
   go_wp2_with fail
   go_loopw [96] (λc wq=>∃j:cd,j<=args.length/\c= Z U (j:cj)/\∃p',nE (gG f ff 0 (args.take j)) p p'/\Ey j p p'/\bn ZF T HM FM GM m B tg p' wc wq) (λc _=>args.length-(intOf c).toNat)
   case atStart=>exact⟨0,cJ _,rfl,p,rfl,⟨by omega,by omega,by omega,AN.out⟩,HP.out.same (an _ _)⟩
   case round=>
    obtain⟨j,hj,rfl,p',An,tW,Fi⟩:=hrel;obtain⟨tg',s',AF,vy,AG⟩:=Fi;have AH:=vy.heap HN.out.ins (λe=>e.1 wk.out);obtain⟨V,hV⟩:=zE wr.drew;have sr:aq wr.heap.size wr V:=by rw[<-hV];exact(an _ _).drew
    obtain⟨S3,ua⟩:=zE ((λW=>aq wr.heap.size wr W):World->Prop);have sn:ca (∀W,aq wr.heap.size wr W->S3 W):=λW hW=>by rw[<-ua];exact hW
    have rn:ca (∀W,S3 W->aq wr.heap.size wr W):=λW hW=>by rw[<-ua] at hW;exact hW
    have tt:S3 V:=sn.out _ sr;have sf:ca (∀W,S3 W->W.cell? ⟨D,4,qu⟩=qt (Z U ff)/\D<W.heap.size):=λW hW=>by
     have hr:=((rn.out W hW).block D (aa AH)).trans AH;exact⟨(rowAt hr 4 (by rw[<-wi.out];rfl)).1,aa hr⟩
    have D3:=tW.f;have D4:=tW.h;have Ek:=tW.t
    by_cases B7:j<args.length
    ·obtain⟨y,hy⟩:∃y,args[j]?=qt y:=⟨_,am B7⟩
     have Ft:(j:cj)<(args.length:cj):=by omega
     have EP:=EW.out.below (w':=wr) ((AM.out.trans (tB.out.mono AM.out.size)).trans (vy.below (cE AM.out.size tB.out.size) (λk e=>cE hB (HP.out.lo k e.1).1)));obtain⟨ag,Fu,rfl,Fv,EQ⟩:=EP (λe=>by rw[e] at B7;simp at B7);have Fw:=EQ j y hy;have ER:fI y:=HX.out.2.2.2.2.2.2.1 rfl y (ce hy);have tU:=zH (λW=>bF f y W);have Ax:=zH (λW=>bF ff (j:cj) W);have ur:ca (∀W,S3 W->ft ac 119 #[rb (qt ⟨T,0,qu⟩),rh #[Z U f,Z U y,Z U (-1)],rh #[Z U ff,Z U (j:cj),Z U (-1)]] W λe w'=>e= rk (.tuple #[])/\∃te,BQ (aQ f y) (aQ ff (j:cj)) p' te/\bn ZF T HM FM GM m B tg' te W w'):=λW hW=>
      dW W (AF.grow (rn.out W hW)) (bK HX.out.1 ER) (bK HX.out.2.2.2.2.2.1 (fZ (by omega))) (λn z h=>cE (tW.xs n z h) (by decide)) (by omega) (by omega) (by omega)
     have B8:=zH vy;have B9:=zH AG;have Cd:=zH An;have Fj:=zH tW;have HY:=zH hy;have tl:=zH hV;clear AF vy AG AH hV sr ua D3 D4 Ek EQ EP ER An tW hy
     go_upto_region 17 with(fail)
     refine ah 8 S3 (by kernel_rfl) ?_;rw[tl.out];refine zT 0 rfl sf.out ?_;(try go_simp);refine zT 1 rfl sf.out ?_;(try go_simp);refine zT 2 rfl sf.out ?_;(try go_simp);refine zT 4 rfl sf.out ?_;(try go_simp);refine zT 5 rfl sf.out ?_;(try go_simp);refine zT 6 rfl sf.out ?_;(try go_simp);refine zO 3 rfl λK' J=> ?_;go_simp;go_at_call 77;refine(tU.out V).mono ?_;rintro e W5 ⟨rfl,ub⟩;have sB:S3 W5:=sn.out _ ((rn.out V tt).trans (ub.mono (rn.out V tt).size));refine J _ _ sB ?_;clear J tt ub;simp only[jE,aQ];(try go_simp);refine zO 7 rfl λK' J=> ?_;go_simp;go_at_call 77;refine(Ax.out W5).mono ?_;rintro e W6 ⟨rfl,ES⟩;have AI:S3 W6:=sn.out _ ((rn.out W5 sB).trans (ES.mono (rn.out W5 sB).size));refine J _ _ AI ?_;clear J sB ES;simp only[jE,aQ];(try go_simp);refine zK rfl λK' J=> ?_;go_simp;go_at_call 119;refine(ur.out W6 AI).mono ?_;rintro e w7 ⟨rfl,te,uc,ud⟩;have tS:=zH ud;have we:=zH uc;have Fk:=zH (rn.out W6 AI);clear ud uc AI;refine J _ _ ?_;clear J;refine⟨by kernel_rfl, ?_⟩;go_wp2;go_roundw
     case rel=>exact⟨j+1,by omega,by go_num,te,by
      rw[za HY.out];exact nE.snoc we.out Cd.out,Fj.out.flow we.out,bn.step B8.out B9.out (bn.below Fk.out tS.out)⟩
     case measure=>simp[intOf];omega
    ·have Fl:j=args.length:=by omega
     subst Fl;rw[cT] at An;have A:=vy.heap HN.out.r9 (λe=>e.1 AD.out);have xj:ca (∀W,S3 W->∀j u,(#[Z U f,Z U d,Z U (-1)]:cG bw).toList[j]?=qt u->W.cell? ((⟨D9,0,qu⟩:oA).add j)=qt u):=λW hW=>aO (((rn.out W hW).block D9 (aa A)).trans A);have tU:=zH (λW=>iE ff W);have ur:ca (∀W,S3 W->ft ac 119 #[rb (qt ⟨T,0,qu⟩),rh #[Z U ff,Z U (-1),Z U (-1)],rh #[Z U f,Z U d,Z U (-1)]] W λe w'=>e= rk (.tuple #[])/\∃te,BQ (kN ff) (aQ f d) p' te/\bn ZF T HM FM GM m B tg' te W w'):=λW hW=>
      dW W (AF.grow (rn.out W hW)) (qo HX.out.2.2.2.2.2.1) (bK HX.out.1 HX.out.2.2.1) (λn z h=>cE (tW.xs n z h) (by decide)) (by omega) (by omega) (by omega)
     have B8:=zH vy;have B9:=zH AG;have Cd:=zH An;have tl:=zH hV;clear AF vy AG AH hV sr ua D3 D4 Ek An tW A
     go_upto_region 19 with(fail)
     refine ah 5 S3 (by kernel_rfl) ?_;rw[tl.out];refine zT 0 rfl sf.out ?_;(try go_simp);refine zT 1 rfl sf.out ?_;(try go_simp);refine zT 2 rfl sf.out ?_;(try go_simp);refine zL 4 rfl 164 ⟨D9,0,qu⟩ xj.out cD ?_;(try go_simp);refine zO 3 rfl λK' J=> ?_;go_simp;go_at_call 83;refine(tU.out V).mono ?_;rintro e W5 ⟨rfl,ub⟩;have sB:S3 W5:=sn.out _ ((rn.out V tt).trans (ub.mono (rn.out V tt).size));refine J _ _ sB ?_;clear J tt ub;simp only[jE,kN];(try go_simp);refine zK rfl λK' J=> ?_;go_simp;go_at_call 119;refine(ur.out W5 sB).mono ?_;rintro e w7 ⟨rfl,te,uc,ud⟩;have tS:=zH ud;have we:=zH uc;have Cl:=zH (rn.out W5 sB);clear ud uc sB;refine J _ _ ?_;clear J;refine⟨by kernel_rfl, ?_⟩;go_wp2
     go_end0
     refine⟨rfl,te,vH (by simp) (by simp) (by simp) ?_,bn.below tB.out ((bn.step B8.out B9.out (bn.below Cl.out tS.out)).weak λ_ h=>h.elim)⟩;simp only[kQ,cw (by decide:¬((15:cj)=9)),oB];exact nE.snoc we.out Cd.out
  have Fy:((op:cj)==15)=qS:=eM B6
  by_cases Cp:op=18
  ·subst Cp
   obtain⟨V,hV⟩:=zE wc.drew;have sr:aq wc.heap.size wc V:=by rw[<-hV];exact(an _ _).drew
   obtain⟨S3,ua⟩:=zE ((λW=>aq wc.heap.size wc W):World->Prop);have sn:ca (∀W,aq wc.heap.size wc W->S3 W):=λW hW=>by rw[<-ua];exact hW
   have rn:ca (∀W,S3 W->aq wc.heap.size wc W):=λW hW=>by rw[<-ua] at hW;exact hW
   have tt:S3 V:=sn.out _ sr;have sf:ca (∀W,S3 W->wc.heap.size<=W.heap.size):=λW hW=>(rn.out W hW).size;have xj:ca (∀W,S3 W->∀j u,(#[Z U f,Z U a,Z U (-1)]:cG bw).toList[j]?=qt u->W.cell? ((⟨rl,0,qu⟩:oA).add j)=qt u):=λW hW=>aO (((rn.out W hW).block rl (aa HN.out.r10)).trans HN.out.r10);have tU:=zH (λW=>iE f W);have ur:ca (∀W,S3 W->ft ac 119 #[rb (qt ⟨T,0,qu⟩),rh #[Z U f,Z U a,Z U (-1)],rh #[Z U f,Z U (-1),Z U (-1)]] W λe w'=>e= rk (.tuple #[])/\∃te,BQ (aQ f a) (kN f) p te/\bn ZF T HM FM GM m B tg te W w'):=λW hW=>
    dW W (HP.out.grow (rn.out W hW)) (bK HX.out.1 HX.out.2.2.2.1) (qo HX.out.1) (λn z h=>cE (AN.out n z h) (by decide)) (by omega) (by omega) (by omega)
   have tl:=zH hV;clear hV sr ua
   go_upto_region 21 with(fail)
   refine ah 4 S3 (by kernel_rfl) ?_;rw[tl.out];refine zT 0 rfl sf.out ?_;(try go_simp);refine zL 1 rfl 164 ⟨rl,0,qu⟩ xj.out cD ?_;(try go_simp);refine zT 2 rfl sf.out ?_;(try go_simp);refine zO 3 rfl λK' J=> ?_;go_simp;go_at_call 83;refine(tU.out V).mono ?_;rintro e W5 ⟨rfl,ub⟩;have sB:S3 W5:=sn.out _ ((rn.out V tt).trans (ub.mono (rn.out V tt).size));refine J _ _ sB ?_;clear J tt ub;simp only[jE,kN];(try go_simp);refine zK rfl λK' J=> ?_;go_simp;go_at_call 119;refine(ur.out W5 sB).mono ?_;rintro e w7 ⟨rfl,te,uc,ud⟩;have tS:=zH ud;have we:=zH uc;have Cl:=zH (rn.out W5 sB);clear ud uc sB;refine J _ _ ?_;clear J;refine⟨by kernel_rfl, ?_⟩;go_wp2
   go_end0
   exact⟨rfl,te,vH (by simp) (by simp) (by simp) ⟨te,we.out,rfl⟩,bn.below tB.out (bn.below Cl.out (tS.out.weak λ_ h=>h.elim))⟩
  have Fz:((op:cj)==18)=qS:=eM Cp;go_wp2
  go_end0
  refine⟨rfl,p,vH AT A2 B5 ?_,H.out.same tB.out⟩;simp only[kQ,cw h9,cw B6,cw Cp];rfl
end
end
end Go.Proofs.YtjomgckjhcfbgaaGreat
