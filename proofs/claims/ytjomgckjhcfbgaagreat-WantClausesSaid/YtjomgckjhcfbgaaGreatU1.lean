/- Walks. -/
import Derived.BigQuiet
import Derived.Maps.AppendAt
import Derived.Deep.QuietTactic
import Derived.Test.YtjomgckjhcfbgaaGreatU0
set_option maxRecDepth 100000
set_option maxHeartbeats 64000000
set_option linter.all false
namespace Go.Proofs.YtjomgckjhcfbgaaGreat
open Go.RowKit
open Go.Proofs.Tryz renaming prog→am,underlying32→eM,underlying263→im,underlying313→iz,underlying40→nh,underlying113→pw
open _root_.List renaming getElem?_eq_getElem→ap,getElem?_eq_some_iff→bl,length_append→bo,mem_of_getElem?→cd,take_length→cR,mem_singleton→cU,mem_append→cX,map_append→dp,eq_nil_of_length_eq_zero→dr,append_nil→ej,append_assoc→eq,mem_cons→gh,flatMap_append→gn,take_add_one→ju,any_eq_true→kh,any_eq_false→lx,take_of_length_le→m5
open Go.RowKit.Below renaming refl→aq,heap_alloc→cJ,heap_setCell→dg
open _root_ renaming Int→aw,Nat→bh,List→bj,ByteArray→bm,if_neg→bx,decide_eq_false→cv,Option→cG,if_pos→cI,beq_eq_false_iff_ne→cT,decide_eq_true→cV,Array→eA,absurd→fL,False→me,Bool→mm,of_decide_eq_true→m7,decide_eq_true_eq→oE,decide_eq_false_iff_not→pl,iff_of_false→qn
open Go.RowKit renaming Below→aE,Hid→cj,intOf→de,ownsRow_setCell_below→lR
open Go renaming heap_setCell_same→bk,cell_of_row→bw,run_storeCells_new→cx,Value→cA,wpQuiet_nil→dj,storeCells→dt,frozen_of_row→ei,bodyPost_ret→er,maxLen→eC,results_cell_row→fk,Addr→fS,beq_toListBytes→fY,Calls→ge,TypeId→gt,heap_alloc2_new→jp,run_underlying→j9,heap_alloc2_old→kp,info_parts→kB,Program→lr,Oper→mS,yielded→pk,wpList→pZ,bytes→rr,wpQuiet→rx,wpList_plain→tr,Operand→tE
open _root_.Nat renaming le_refl→cg,lt_of_lt_of_le→cH,zero_le→cN,le_trans→eJ,add_zero→ki,not_lt_zero→oR
open Go.Value renaming oneCell'→ct,int→eS,string→fz,string→tS,slice→tU,pointer→tW,bool→ua,agg→ub,int→Z
open _root_.Option.some renaming inj→cE
open Go.Exit renaming inBlock→dk
open Go.IntKind renaming i64→dT,i64→U
open Go.Region renaming ready→fg,wanted→gx,Mode→i8
open _root_.Bool renaming and_eq_true→fj,eq_iff_iff→tf,true→tP,false→tR
open _root_.Option renaming map_eq_some_iff→ip,some→tG,none→tM
open Go.Builtin renaming append_→jt,firstCells→nB,lenOf→pT
open _root_.Int renaming natCast_add→ld
open Go.Result renaming andThen→mT
open Go.Oper renaming wp→nd
open _root_.ByteArray renaming size_extract→oX
open Go.ByteArray renaming toList_eq→py
open Go.Ending renaming returned→qt,returned→ud
open Go.Obj renaming cells→uc
open Tryz
section
variable {P:lr}{ops:eA mS}{Q:Exit->Act->World->Prop}{md:i8}{S:World->Prop}{k:bh}
theorem lF {i j:bh}{e f:mS}{fuel:bh}{listed:eA mm}{a:Act}{w:World}(t:fg md ops listed=[i,j])(u:i≠k)(v:j≠k)(x:ops[i]?=tG e)(y:ops[j]?=tG f)
  (hi:∀d:Act->World->Prop,(∀a w,S w->dI P md ops Q S k fuel (listed.setIfInBounds i tP) a w->d a w)->if gx e (pk ops a.tmps)=tP then nd P e a w d Q else d (a.put e.dst undef) w)
  (A:∀d:Act->World->Prop,(∀a w,S w->dI P md ops Q S k fuel (listed.setIfInBounds j tP) a w->d a w)->if gx f (pk ops a.tmps)=tP then nd P f a w d Q else d (a.put f.dst undef) w):
  dI P md ops Q S k (fuel+1) listed a w:=by
 refine⟨λh0=>(by rw[t] at h0;cases h0),λz g=> ?_⟩;rw[t] at g;rcases gh.1 g with rfl|g
 ·simp only[bx u]
  exact wpOp_step x (λd h=>hi d (λa w o q=>h a w ⟨o,q⟩))
 ·obtain rfl:=cU.1 g
  simp only[bx v];exact wpOp_step y (λd h=>A d (λa w o q=>h a w ⟨o,q⟩))
end
structure BW (W:World) where
 w:World
 h:aE W.heap.size W w
instance {W:World}:Inhabited (BW W):=⟨⟨W,aq _ _⟩⟩
theorem nM {P:lr}{id:bh}{Q:Exit->Act->World->Prop}{a:Act}{W:World}{l:bj mS}(d:P.follows .mixedOrders=tP)(e:Region.lexB .any l.toArray=tP)
  (h:rx P l.toArray (λw'=>∃p:BW W,w'=p.w) (λf=>∀w',(∃p:BW W,w'=p.w)->Q .normal f w') l a):(Code.region id l.toArray tP).wp P Q a W:=
 wp_region_quiet (C:=λw'=>∃p:BW W,w'=p.w) d e ⟨⟨W.drew,(aq _ _).drew⟩,rfl⟩ (by simpa using h)
theorem zQ {P:lr}{id:bh}{Q:Exit->Act->World->Prop}{a:Act}{W:World}{l:bj mS}
  (h:rx P l.toArray (λw'=>∃p:BW W,w'=p.w) (λd=>∀w',(∃p:BW W,w'=p.w)->Q .normal d w') l a)
  (e:P.follows .mixedOrders=tP:=by kernel_rfl)(f:Region.lexB .any l.toArray=tP:=by kernel_rfl):(Code.region id l.toArray tP).wp P Q a W:=
 nM e f h
theorem bE {P:lr}{f:FuncId}{args:eA cA}{W:World}{p:BW W}{v:cA}(h:ge P f args p.w λe w'=>e= ud v/\aE p.w.heap.size p.w w'):
  ge P f args p.w λe w''=>e= ud v/\∃q:BW W,w''=q.w:=
 h.mono λ_ w' ⟨d,hb⟩=>⟨d,⟨w',p.h.trans (hb.mono p.h.size)⟩,rfl⟩
theorem eO {P:lr}{f:FuncId}{args:eA cA}{W:World}{p:BW W}{v:cA}(h:ge P f args p.w λe w'=>e= ud v/\p.w=w'):
  ge P f args p.w λe w''=>e= ud v/\∃q:BW W,w''=q.w:=
 h.mono λ_ _ ⟨d,hb⟩=>⟨d,p,hb.symm⟩
theorem run_append_nil {P:lr}(w:World)(base:bh)(t f e:gt)(i:TypeInfo)(size:bh)(d:P.underlying t=tG (.slice e))(hi:P.info? e=tG i)
  (v:cA)(n:bh)(xs:bj cA)(h:w.ownsRow base e size v n xs)(c:bh):(jt #[t,t] f #[v,tU tM 0 c]).run P w= .ok v w:=by
 rcases h.2 with⟨rfl,rfl⟩|⟨g,cap,o,rfl,_,_,j,_⟩
 ·simp[jt,j9 d,sizeOf,typeInfo,hi,pT,nB]
 ·simp[jt,j9 d,sizeOf,typeInfo,hi,pT,nB,j,dt]
theorem oD {P:lr}{w:World}{ops:eA mS}{rest:bj mS}{o:mS}{a:Act}{Q:Exit->Act->World->Prop}(E:o.guard=tM)(s x:tE)(t:gt)
  (G:o.op= .call {callee:= .builtin .append,args:=#[s,x],argTypes:=#[t,t]})(base:bh)(e:gt)(i:TypeInfo)(z:cA)(size rr:bh)(A:P.underlying t=tG (.slice e))(hi:P.info? e=tG i)(J:i.zero=tG z)
  (R:i.size=size)(ue:i.bytes=rr)(up:z.cells.size=size)(ur:0<size)
  (v:cA)(n:bh)(xs:bj cA)(hs:a.eval s=v)(y:w.ownsRow base e size v n xs)
  (ao:cG fS)(m c:bh)(f:bj cA)(hx:a.eval x= tU ao m c)(hl:f.length=m*size)(uv:ao=tM->m=0)(ux:∀g,ao=tG g->∀j u,f[j]?=tG u->w.cell? (g.add j)=tG u)(h1:∀u∈f,u.oneCell'=tP)
  (vc:n+m<=eC)(vd:(n+m)*rr<=140737488355328)(vf:base<=w.heap.size)
  (h:∀d w',w'.ownsRow base e size d (n+m) (xs++f)->w.grownBy w' v.ownBlock->(∀k,d.ownBlock=tG k->v.ownBlock=tG k\/w.heap.size<=k)->pZ P ops Q rest (a.put o.dst d) w'):pZ P ops Q (o::rest) a w:=by
 refine tr E λK hK=> ?_;have vh:∃d w',(jt #[t,t] o.type #[v,tU ao m c]).run P w= .ok d w'/\w'.ownsRow base e size d (n+m) (xs++f)/\w.grownBy w' v.ownBlock/\(∀k,d.ownBlock=tG k->v.ownBlock=tG k\/w.heap.size<=k):=by
  cases ao with
  |none=>
   obtain rfl:=uv rfl;have hn:f=[]:=dr (by omega);subst hn;exact⟨v,w,run_append_nil w base t o.type e i size A hi v n xs y c,by simpa using y,World.grownBy.refl w _,λk q=> .inl q⟩
  |some g=>
   obtain⟨d,w',r1,r2,r3,_,r5⟩:=run_append_own_at w base t o.type e i z size rr A hi J R ue up ur v n xs y g m c f hl (ux g rfl) h1 vc vd vf;refine⟨d,w',r1,r2,r3,λk q=> ?_⟩;rcases r5 with r5|r5
   ·exact .inl (by rw[<-r5];exact q)
   ·right;rw[r5] at q;simp at q;omega
 obtain⟨d,w',r1,r2,r3,r4⟩:=vh;unfold nd;simp[execOp,G,resolve,invoke,builtin,hs,hx,r1,mT];exact hK _ _ (h _ _ r2 r3 r4)
theorem jR (w:World)(e:gt)(size base:bh)(d:base<=w.heap.size):(w.alloc (uc #[] e)).ownsRow base e size (tU (tG ⟨w.heap.size,0,tM⟩) 0 0) 0 []:=
 World.ownsRow_made w #[] 0 d (by unfold eC;omega) (by simp)
theorem ai {w:World}{base:bh}{e:gt}{size n:bh}{v:cA}{xs:bj cA}(h:w.ownsRow base e size v n xs){k:bh}(d:v.ownBlock=tG k):base<=k/\k<w.heap.size:=h.lt k d
theorem ah {w w':World}{base:bh}{e:gt}{size n:bh}{v:cA}{xs:bj cA}{M:bh->Prop}(h:w.ownsRow base e size v n xs)(f:Ext M w w')(j:∀k,v.ownBlock=tG k->¬M k):w'.ownsRow base e size v n xs:=by
 refine⟨h.1, ?_⟩;rcases h.2 with o|⟨g,cap,q,d,t,u,x⟩
 ·exact .inl o
 ·refine .inr ⟨g,cap,q,d,t,f.heap u (j g (by rw[d];rfl)),x⟩
theorem aC {w:World}{base m f:bh}{e:gt}{v:cA}{xs:bj cA}(h:w.ownsRow base e f v m xs):∃ao cap,v= tU ao m cap:=by
 rcases h.2 with⟨d,j⟩|⟨g,cap,o,d,_⟩
 ·exact⟨tM,0,by rw[j];exact d⟩
 ·exact⟨_,_,d⟩
theorem gF {P:lr}{W:World}{ops:eA mS}{rest:bj mS}{o:mS}{a:Act}{Q:Exit->Act->World->Prop}(q:o.guard=tM)(s x:tE)(t:gt)
  (y:o.op= .call {callee:= .builtin .append,args:=#[s,x],argTypes:=#[t,t]})(base:bh)(e:gt)(i:TypeInfo)(z:cA)(size rr:bh)(A:P.underlying t=tG (.slice e))(hi:P.info? e=tG i)(E:i.zero=tG z)
  (G:i.size=size)(J:i.bytes=rr)(K:z.cells.size=size)(R:0<size)
  (v:cA)(n:bh)(xs:bj cA)(hs:a.eval s=v)(ue:W.ownsRow base e size v n xs)
  (B:bh)(d:eA cA)(hB:B=W.heap.size)(hx:a.eval x= tU (tG ⟨B,0,tM⟩) 1 1)(up:d.size=size)(h1:∀u∈d.toList,u.oneCell'=tP)
  (ur:n+1<=eC)(uv:(n+1)*rr<=140737488355328)(vc:base<=W.heap.size)
  (h:∀f w',w'.ownsRow base e size f (n+1) (xs++d.toList)->Ext (λk=>v.ownBlock=tG k) W w'->(∀k,f.ownBlock=tG k->v.ownBlock=tG k\/W.heap.size<=k)->pZ P ops Q rest (a.put o.dst f) w'):
  pZ P ops Q (o::rest) a (W.alloc (uc d e)):=by
 subst hB;refine oD q s x t y base e i z size rr A hi E G J K R v n xs hs (ue.alloc _) (tG ⟨W.heap.size,0,tM⟩) 1 1 d.toList hx (by simp[up]) (λh=>by cases h)
  (λad ux j u hu=> ?_) h1 ur uv (by rw[World.size_alloc];omega) (λf w' r1 r2 r3=> ?_)
 ·obtain rfl:(⟨W.heap.size,0,tM⟩:fS)=ad:=by simpa using ux
  have:=gD W d.toList e j u hu;simpa using this
 ·refine h f w' r1 ?_ (λk g=> ?_)
  ·refine⟨r2.os,r2.tape,r2.output,by have:=r2.size;rw[World.size_alloc] at this;omega,λk g hn=> ?_⟩
   rw[r2.block k (by rw[World.size_alloc];omega) (λe=>hn e.symm)];exact cJ W _ k g
  ·rcases r3 k g with h|h
   ·exact .inl h
   ·right;rw[World.size_alloc] at h;omega
theorem aI {P:lr}{w:World}{o:mS}{a:Act}{Q:Exit->Act->World->Prop}{K:Act->World->Prop}(s x:tE)(t:gt)
  (E:o.op= .call {callee:= .builtin .append,args:=#[s,x],argTypes:=#[t,t]})(base:bh)(e:gt)(i:TypeInfo)(z:cA)(size rr:bh)(A:P.underlying t=tG (.slice e))(hi:P.info? e=tG i)(G:i.zero=tG z)
  (J:i.size=size)(R:i.bytes=rr)(ue:z.cells.size=size)(up:0<size)
  (v:cA)(n:bh)(xs:bj cA)(hs:a.eval s=v)(y:w.ownsRow base e size v n xs)
  (ao:cG fS)(m c:bh)(f:bj cA)(hx:a.eval x= tU ao m c)(hl:f.length=m*size)(ur:ao=tM->m=0)(uv:∀g,ao=tG g->∀j u,f[j]?=tG u->w.cell? (g.add j)=tG u)(h1:∀u∈f,u.oneCell'=tP)
  (ux:n+m<=eC)(vc:(n+m)*rr<=140737488355328)(vd:base<=w.heap.size)
  (h:∀d w',w'.ownsRow base e size d (n+m) (xs++f)->w.grownBy w' v.ownBlock->(∀k,d.ownBlock=tG k->v.ownBlock=tG k\/w.heap.size<=k)->K (a.put o.dst d) w'):nd P o a w K Q:=by
 have vf:∃d w',(jt #[t,t] o.type #[v,tU ao m c]).run P w= .ok d w'/\w'.ownsRow base e size d (n+m) (xs++f)/\w.grownBy w' v.ownBlock/\(∀k,d.ownBlock=tG k->v.ownBlock=tG k\/w.heap.size<=k):=by
  cases ao with
  |none=>
   obtain rfl:=ur rfl;have hn:f=[]:=dr (by omega);subst hn;exact⟨v,w,run_append_nil w base t o.type e i size A hi v n xs y c,by simpa using y,World.grownBy.refl w _,λk q=> .inl q⟩
  |some g=>
   obtain⟨d,w',r1,r2,r3,_,r5⟩:=run_append_own_at w base t o.type e i z size rr A hi G J R ue up v n xs y g m c f hl (uv g rfl) h1 ux vc vd;refine⟨d,w',r1,r2,r3,λk q=> ?_⟩;rcases r5 with r5|r5
   ·exact .inl (by rw[<-r5];exact q)
   ·right;rw[r5] at q;simp at q;omega
 obtain⟨d,w',r1,r2,r3,r4⟩:=vf;unfold nd;simp[execOp,E,resolve,invoke,builtin,hs,hx,r1,mT];exact h _ _ r2 r3 r4
def fG (c:aw):mm:=decide (65<=c)&&decide (c<=90)||decide (97<=c)&&decide (c<=122)||decide (c=95)
def jA (c:aw):mm:=decide (48<=c)&&decide (c<=57)
def fu (s:bm)(i:bh):aw:=if h:i<s.size then((s[i]'h).toNat:aw) else 0
theorem gP {b:mm}{p:Prop}{x:mm}(d:x=tP↔p)(h:b=tP↔p):qt (ua b)= ud (ua x):=by
 rw[tf.2 (h.trans d.symm)]
theorem BP (c:aw):fG c=tP↔(65<=c/\c<=90\/97<=c/\c<=122)\/c=95:=by unfold fG;simp
theorem wh (c:aw):jA c=tP↔48<=c/\c<=57:=by unfold jA;simp
theorem gQ (c:aw)(w:World):zS 203 #[.int .u8 c] w (ua (fG c)):=by
 have d:=zH (BP c);go_enter func203,ntmps203
 by_cases j:65<=c
 ·by_cases o:c<=90
  ·go_wp2
   go_ret;exact⟨gP d.out (iff_of_true rfl (by omega)),rfl⟩
  ·by_cases g:97<=c
   ·by_cases q:c<=122
    ·go_wp2
     go_ret;exact⟨gP d.out (iff_of_true rfl (by omega)),rfl⟩
    ·have e:(c==95)=tR:=by rw[cT];omega
     go_wp2;go_ret;exact⟨gP d.out (qn (λh=>by cases h) (by omega)),rfl⟩
   ·by_cases f:c=95
    ·subst f
     go_wp2;go_ret;exact⟨gP d.out (iff_of_true rfl (by simp)),rfl⟩
    ·have e:(c==95)=tR:=by rw[cT];exact f
     go_wp2;go_ret;exact⟨gP d.out (qn (λh=>by cases h) (by omega)),rfl⟩
 ·have g:¬97<=c:=by omega
  have e:(c==95)=tR:=by rw[cT];omega
  go_wp2;go_ret;exact⟨gP d.out (qn (λh=>by cases h) (by omega)),rfl⟩
theorem jN (c:aw)(w:World):zS 204 #[.int .u8 c] w (ua (jA c)):=by
 have d:=zH (wh c);go_enter func204,ntmps204
 by_cases e:48<=c
 ·by_cases f:c<=57
  ·go_wp2
   go_ret;exact⟨gP d.out (iff_of_true rfl (by omega)),rfl⟩
  ·go_wp2
   go_ret;exact⟨gP d.out (qn (λh=>by cases h) (by omega)),rfl⟩
 ·go_wp2
  go_ret;exact⟨gP d.out (qn (λh=>by cases h) (by omega)),rfl⟩
def iX:bj bm:=[⟨#[105,110,116]⟩,⟨#[115,116,114,117,99,116]⟩,⟨#[105,102]⟩,⟨#[101,108,115,101]⟩,⟨#[119,104,105,108,101]⟩,⟨#[98,114,101,97,107]⟩,⟨#[99,111,110,116,105,110,117,101]⟩,⟨#[114,101,116,117,114,110]⟩,⟨#[102,114,101,101]⟩,⟨#[112,117,116]⟩,⟨#[110,101,119]⟩,⟨#[110,117,108,108]⟩,⟨#[103,101,116]⟩]
theorem uD (w:World):ge am 240 #[] w λe w'=>e= ud (tU (tG ⟨w.heap.size,0,tM⟩) 13 13)/\w'=w.alloc (uc (iX.map fz).toArray 9):=by
 have d:(iX.map fz).toArray=#[tS ⟨#[105,110,116]⟩,tS ⟨#[115,116,114,117,99,116]⟩,tS ⟨#[105,102]⟩,tS ⟨#[101,108,115,101]⟩,tS ⟨#[119,104,105,108,101]⟩,tS ⟨#[98,114,101,97,107]⟩,tS ⟨#[99,111,110,116,105,110,117,101]⟩,tS ⟨#[114,101,116,117,114,110]⟩,tS ⟨#[102,114,101,101]⟩,tS ⟨#[112,117,116]⟩,tS ⟨#[110,101,119]⟩,tS ⟨#[110,117,108,108]⟩,tS ⟨#[103,101,116]⟩]:=rfl;rw[d];clear d;go_enter func240,ntmps240;go_wp2;go_ret;exact⟨rfl,rfl⟩
def iY (s:bm):mm:=iX.any λx=>x==s
theorem xA (s:bm)(w:World):zP 205 #[tS s] w (ua (iY s)):=by
 obtain⟨N,q⟩:=zE w.heap.size;obtain⟨W1,g⟩:=zE (w.alloc (uc (iX.map fz).toArray 9));have z:=zH (uD w);rw[q,g] at z;have t:=iR g q;have A:W1.heap[N]?=tG (uc (iX.map fz).toArray 9 (0,0)):=by rw[<-g,<-q];exact alloc_at _ _
 have R:cj (∀(j:bh)(x:bm),iX[j]?=tG x->W1.cell? ⟨N,j,tM⟩=tG (tS x)):=λj x f=>by
  rw[bw _ _ _ _ _ _ A];simp[f]
 have HB:=zH t;have E:cj (iX.length=13):=rfl;have G:cj (∀b:mm,b=iY s->(qt (ua b)= ud (ua (iY s))/\aE N w W1)):=λb hb=>by rw[hb];exact⟨rfl,t⟩
 clear g t A;go_enter func205,ntmps205
 go_wp2_with (go_at_call 240;refine z.out.mono ?_;rintro e w2 ⟨rfl,rfl⟩)
 go_loop [4] (λk=>∃j:bh,j<=13/\k= Z U (j:aw)/\∀x∈iX.take j,(x==s)=tR) (λk=>13-(de k).toNat)
 case atStart=>exact⟨0,cN _,rfl,by simp⟩
 case round=>
  obtain⟨j,hj,rfl,o⟩:=hrel
  by_cases ue:j<13
  ·obtain⟨y,u⟩:∃y,iX[j]?=tG y:=⟨_,ap (by rw[E.out];exact ue)⟩
   have d1:=R.out j y u;have ur:(j:aw)<13:=by omega
   obtain⟨d,v⟩:=zE (y==s);have hd:(y.toList==s.toList)=d:=by rw[<-fY];exact v
   have HZ:=zH o;have J:=zH u;have K:=zH v;clear u o v;cases d with
   |true=>
    go_wp2;go_ret;refine G.out tP ?_;unfold iY;exact(kh.2 ⟨y,cd J.out,K.out⟩).symm
   |false=>
    go_wp2
    go_round
    case rel=>
     refine⟨j+1,by omega,by go_num,λx f=> ?_⟩;rw[ju,J.out] at f;rcases cX.1 f with h|h
     ·exact HZ.out x h
     ·have e:x=y:=by simpa using h
      rw[e];exact K.out
    case measure=>simp[de];omega
  ·have up:j=13:=by omega
   subst up;have HM:cj (tR=iY s):=by
    unfold cj iY;rw[eq_comm,lx];intro x f;have:=o x (by rw[m5 (by rw[E.out];exact cg _)];exact f);rw[this];simp
   clear o;go_wp2;go_ret;exact G.out tR HM.out
def isSp (c:aw):mm:=c==32||c==9||c==10
def gG (s:bm):bh->bh->bh
 |0,i=>i
 |n+1,i=>if isSp (fu s i)=tP then gG s n (i+1) else i
def dh (s:bm):bh->bh->bh
 |0,k=>k
 |n+1,k=>if (fG (fu s k)||jA (fu s k))=tP then dh s n (k+1) else k
theorem lG (s:bm):∀(n i:bh),i<=gG s n i/\gG s n i<=i+n
 |0,i=>by simp[gG]
 |n+1,i=>by
  unfold gG
  split
  ·have:=lG s n (i+1);omega
  ·omega
theorem iF (s:bm):∀(n i:bh),i<=dh s n i/\dh s n i<=i+n
 |0,i=>by simp[dh]
 |n+1,i=>by
  unfold dh
  split
  ·have:=iF s n (i+1);omega
  ·omega
def gp:bj bm:=[⟨#[45,62]⟩,⟨#[60,61]⟩,⟨#[62,61]⟩,⟨#[61,61]⟩,⟨#[33,61]⟩,⟨#[43]⟩,⟨#[45]⟩,⟨#[42]⟩,⟨#[47]⟩,⟨#[37]⟩,⟨#[60]⟩,⟨#[62]⟩,⟨#[33]⟩,⟨#[61]⟩,⟨#[40]⟩,⟨#[41]⟩,⟨#[123]⟩,⟨#[125]⟩,⟨#[44]⟩,⟨#[59]⟩]
structure Tok where
 kind:aw
 text:bm
 n:aw
 ln:aw
 cl:aw
def Tok.cells (t:Tok):eA cA:=#[Z U t.kind,tS t.text,Z U t.n,Z U t.ln,Z U t.cl]
abbrev BD:=aw×bm×aw
def Tok.sig (t:Tok):BD:=(t.kind,t.text,t.n)
def gT (s:bm)(i:bh)(g:bm):mm:=decide (g.size<=s.size-i)&&(s.extract i (i+g.size)==g)
def BQ (s:bm)(i:bh):cG BD:=
 if fG (fu s i)=tP then
  (if dh s (s.size-i) i<=i+40 then tG (if iY (s.extract i (dh s (s.size-i) i))=tP then 2 else 1,s.extract i (dh s (s.size-i) i),0) else tM)
 else if jA (fu s i)=tP then
  (if i+1<s.size/\(jA (fu s (i+1))||fG (fu s (i+1)))=tR then tG (3,s.extract i (i+1),fu s i-48) else tM)
 else(gp.find? (gT s i)).map λg=>(4,g,0)
def lH (s:bm):bh->bh->cG (bj BD)
 |0,_=>tM
 |n+1,i=>if i<s.size then(match BQ s i with
   |some t=>(lH s n (gG s (s.size-(i+t.2.1.size)) (i+t.2.1.size))).map (t::·)
   |none=>tM)
  else tG []
theorem jX {s:bm}{j:bh}(h:j<s.size):((s[j]'h).toNat:aw)=fu s j:=by unfold fu;rw[dif_pos h]
def oF (s:bm):Prop:=∀i,fu s i≠47
theorem xB (s:bm)(i:bh)(w:World)(z:oF s)(hs:s.size<=9000000)(hi:i<=s.size):
  zS 166 #[tS s,Z U (i:aw)] w (Z U (gG s (s.size-i) i:bh)):=by
 obtain⟨R,t⟩:=zE (gG s (s.size-i) i);rw[t];have J:=zH z;have u:=zH t;clear z t;go_enter func166,ntmps166;go_wp2
 go_loop [1] (λk=>∃j:bh,j<=s.size/\k= Z U (j:aw)/\gG s (s.size-j) j=R) (λk=>s.size-(de k).toNat)
 case atStart=>exact⟨i,hi,rfl,u.out⟩
 case round=>
  obtain⟨j,hj,rfl,d⟩:=hrel
  by_cases A:j<s.size
  ·have ur:(j:aw)<(s.size:aw):=by omega
   obtain⟨c,f⟩:=zE (((s[j]'A).toNat:aw):aw);have g:fu s j=c:=by rw[<-jX A];exact f
   have v:c≠47:=by rw[<-g];exact J.out j
   have x:s.size-j=s.size-(j+1)+1:=by omega
   rw[x] at d;unfold gG at d;rw[g] at d;have f47:(c==47)=tR:=by rw[cT];exact v
   by_cases e:isSp c=tP
   ·rw[cI e] at d
    have E:=zH d;unfold isSp at e;obtain⟨K,h⟩:=zE (c==32);obtain⟨b2,o⟩:=zE (c==9);obtain⟨b3,q⟩:=zE (c==10);rw[h,o,q] at e;have G:=zH e;clear d e g v f47 x;rw[<-f] at h o q;clear f;have HN:cj (∃k:bh,k<=s.size/\eS .i64 ((j:aw)+1)= Z U (k:aw)/\gG s (s.size-k) k=R):=⟨j+1,by omega,by simp,E.out⟩
    clear E;cases K<;>cases b2<;>cases b3<;>first
     |(exact fL G.out (by decide))
     |(clear G;go_wp2;go_round;case rel=>exact HN.out
       case measure=>simp[de];omega)
   ·rw[bx e] at d
    subst d;have y:isSp c=tR:=by simpa using e
    unfold isSp at y;simp only[Bool.or_eq_false_iff] at y;obtain⟨⟨h,o⟩,q⟩:=y;clear e g v x u;rw[<-f] at h o q f47;clear f
    by_cases uv:j+1<s.size
    ·have ue:(j:aw)+1<(s.size:aw):=by omega
     go_wp2;go_ret;exact⟨rfl,rfl⟩
    ·have ue:¬(j:aw)+1<(s.size:aw):=by omega
     go_wp2;go_ret;exact⟨rfl,rfl⟩
  ·have up:j=s.size:=by omega
   subst up;rw[Nat.sub_self] at d;unfold gG at d;subst d;clear u;go_wp2;go_ret;exact⟨rfl,rfl⟩
def Dt (w:World)(e:Ending)(w':World):Prop:=∃a b:aw,e= ud (ub #[Z U a,Z U b])/\0<=a/\a<=9000001/\0<=b/\b<=9000001/\aE w.heap.size w w'
def H5 (W:World)(N:bh)(w:World)(j:bh)(wr:World):Prop:=∃a b:aw,0<=a/\a<=(j:aw)+1/\0<=b/\b<=(j:aw)+1/\wr.heap[N]?=tG (uc #[Z U 0,Z U 0] 40 (0,0))/\wr.heap[N+1]?=tG (uc #[Z U a,Z U b] 40 (0,0))/\aE N w wr/\wr.heap.size=W.heap.size
theorem uE (s:bm)(n:bh)(w:World)(R:s.size<=9000000)(hn:n<=s.size):
  ge am 167 #[tS s,Z U (n:aw)] w (Dt w):=by
 obtain⟨N,d⟩:=zE w.heap.size;have hst:∀(w:World)(c:eA cA),c.size=2->(dt ⟨w.heap.size,0,tM⟩ [Z U 1,Z U 1] 0).run am (w.alloc (uc c 40))= .ok () (w.alloc (uc #[Z U 1,Z U 1] 40)):=λw c z=>
  cx (P:=am) w 40 c #[Z U 1,Z U 1] (by show _=tG 2;kernel_rfl) z (by simp[ct])
 go_enter func167,ntmps167;go_wp2;clear hst;obtain⟨W1,e⟩:=zE ((w.alloc (uc #[Z U 0,Z U 0] 40)).alloc (uc #[Z U 1,Z U 1] 40));have h0:H5 W1 N w 0 W1:=⟨1,1,by omega,by omega,by omega,by omega,by rw[<-e,<-d];exact kp _ _ _,by rw[<-e,<-d];exact jp _ _ _,by rw[<-e,<-d];exact((aq _ _).alloc (cg _) _).alloc (by simp) _,rfl⟩
 rw[e];have o:N+1<W1.heap.size:=by rw[<-e];simp[d]
 have A:=zH d;have E:=zH h0;have ue:=zH o;clear e d h0 o
 go_loopw [6] (λk wr=>∃j:bh,j<=n/\k= Z U (j:aw)/\H5 W1 N w j wr) (λk _=>n-(de k).toNat)
 case atStart=>exact⟨0,cN _,rfl,E.out⟩
 case round=>
  obtain⟨j,hj,rfl,a,b,G,ha,J,hb,f,r1,q,t⟩:=hrel;have g:=zH q;have u:=zH t;have c0:=zR r1 0 (Z U a);have c1:=zR r1 1 (Z U b);have f0:wr.frozen? ⟨N+1,0,tM⟩=tR:=ei _ _ _ _ _ r1;have f1:wr.frozen? ⟨N+1,1,tM⟩=tR:=ei _ _ _ _ _ r1;have k0:=zR f 0 (Z U 0);have k1:=zR f 1 (Z U 0);have g0:wr.frozen? ⟨N,0,tM⟩=tR:=ei _ _ _ _ _ f;have g1:wr.frozen? ⟨N,1,tM⟩=tR:=ei _ _ _ _ _ f;have h:=zH f;have v:=zH r1;clear q t f r1
  by_cases up:j<n
  ·have K:(j:aw)<(n:aw):=by omega
   have x:j<s.size:=by omega
   by_cases y:(((s[j]'x).toNat:aw)==10)=tP
   ·go_wp2
    go_roundw
    case rel=>
     refine⟨j+1,by omega,by go_num,a+1,1,by omega,by omega,by omega,by omega, ?_,bf v.out, ?_, ?_⟩
     ·exact(dg _ _ _ N (by show N≠N+1;omega)).trans ((dg _ _ _ N (by show N≠N+1;omega)).trans h.out)
     ·exact(g.out.setCell (by show N<=N+1;omega) _).setCell (by show N<=N+1;omega) _
     ·simp[u.out]
    case measure=>simp[de];omega
   ·have ur:(((s[j]'x).toNat:aw)==10)=tR:=by simpa using y
    clear y;go_wp2;go_roundw
    case rel=>
     refine⟨j+1,by omega,by go_num,a,b+1,by omega,by omega,by omega,by omega, ?_, ?_, ?_, ?_⟩
     ·exact(dg _ _ _ N (by show N≠N+1;omega)).trans h.out
     ·have:=bk wr (N+1) 1 _ _ (Z U (b+1)) v.out;simpa using this
     ·exact g.out.setCell (by show N<=N+1;omega) _
     ·simp[u.out]
    case measure=>simp[de];omega
  ·have K:¬(j:aw)<(n:aw):=by omega
   have uv:a<=9000001:=by omega
   go_wp2;(try simp only[dk,Exit.then]);refine er (fk (P:=am) rfl _ _ N 40 _ (0,0) _ rfl (bf h.out) nh rfl (by kernel_rfl)) rfl ?_;refine⟨a,b,rfl,G,by omega,J,by omega, ?_⟩;rw[A.out];exact(g.out.setCell (by show N<=N;omega) _).setCell (by show N<=N;omega) _
def D5 (k:aw)(s:bm)(n:aw):cA:= ub #[Z U k,tS s,Z U n,Z U 0,Z U 0]
theorem BR (s:bm)(i:bh)(w:World)(hs:s.size<=9000000)(hi:i<s.size)(hl:fG (fu s i)=tP)(xF:dh s (s.size-i) i<=i+40):
  zP 168 #[tS s,Z U (i:aw)] w (.tuple #[D5 (if iY (s.extract i (dh s (s.size-i) i))=tP then 2 else 1) (s.extract i (dh s (s.size-i) i)) 0,Z U 0]):=by
 obtain⟨R,hR⟩:=zE (dh s (s.size-i) i);have vm:=iF s (s.size-i) i;rw[hR] at vm xF⊢;have yk:=vm.1;have yp:R<=s.size:=by omega
 obtain⟨G,vp⟩:=zE (iY (s.extract i R));rw[vp];obtain⟨kd,vq⟩:=zE ((if G=tP then 2 else 1):aw);rw[vq];have J:=zH (λW=>xA (s.extract i R) W);rw[vp] at J;have wg:=zH vq;have HR:=zH hR;have wj:=jX hi;obtain⟨c,K⟩:=zE (((s[i]'hi).toNat:aw):aw);have wk:=zH (λW=>gQ c W);have wl:fG c=tP:=by rw[<-K,wj];exact hl
 rw[wl] at wk;have HC:=zH K;have xT:=zH λc W=>gQ c W;have yb:cj (∀(c:aw)(W:World),zS 204 #[.int .u8 c] W (ua (jA c))):=λc W=>jN c W;obtain⟨N,hN⟩:=zE w.heap.size;obtain⟨W1,ue⟩:=zE (w.alloc (uc #[Z U 0,tS ⟨#[]⟩,Z U 0,Z U 0,Z U 0] 263));obtain⟨q,t⟩:=zE (W1.alloc (uc #[Z U 1,tS (s.extract i R),Z U 0,Z U 0,Z U 0] 263));have ws:=iR ue hN;have uv:W1.heap.size=N+1:=by rw[<-ue];simp[hN]
 have A:aE N w q:=by rw[<-t];exact ws.alloc (by omega) _
 have yd:q.heap.size=N+2:=by rw[<-t];simp[uv]
 have xf:q.heap[N]?=tG (uc #[Z U 0,tS ⟨#[]⟩,Z U 0,Z U 0,Z U 0] 263 (0,0)):=by rw[<-t,<-ue,<-hN];exact kp _ _ _
 have xj:q.heap[N+1]?=tG (uc #[Z U 1,tS (s.extract i R),Z U 0,Z U 0,Z U 0] 263 (0,0)):=by rw[<-t,<-uv];exact alloc_at _ _
 have E:cj (∀W,aE q.heap.size q W->W.heap[N]?=tG (uc #[Z U 0,tS ⟨#[]⟩,Z U 0,Z U 0,Z U 0] 263 (0,0))/\W.heap[N+1]?=tG (uc #[Z U 1,tS (s.extract i R),Z U 0,Z U 0,Z U 0] 263 (0,0))/\aE N w W):=λW hW=>
  ⟨(hW.block N (by omega)).trans xf,(hW.block (N+1) (by omega)).trans xj,A.trans (hW.mono (by omega))⟩
 have hst:∀(c:eA cA),c.size=5->(dt ⟨W1.heap.size,0,tM⟩ [Z U 1,tS (s.extract i R),Z U 0,Z U 0,Z U 0] 0).run am (W1.alloc (uc c 263))= .ok () q:=λc K=>by
  rw[<-t];exact cx (P:=am) W1 263 c #[Z U 1,tS (s.extract i R),Z U 0,Z U 0,Z U 0] (by show _=tG 5;kernel_rfl) K (by simp[ct])
 have xo:=zH hst;have xp:=zH uv;have ye:=zH ue;have ux:=zH t;have HN:=zH hN;clear hR vm vp vq wj K wl hl hst ue t ws A uv yd xf xj;go_enter func168,ntmps168
 go_wp2_with (go_at_call 203;(try rw[HC.out]);refine(wk.out _).mono ?_;rintro e w2 ⟨rfl,rfl⟩)
 rw[ye.out]
 go_loop [6] (λk=>∃j:bh,j<=s.size/\k= Z U (j:aw)/\dh s (s.size-j) j=R) (λk=>s.size-(de k).toNat)
 case atStart=>exact⟨i,by omega,rfl,HR.out⟩
 case round=>
  obtain⟨j,hj,rfl,u⟩:=hrel;have vc:cj (dh s (s.size-j) j=j->j=R):=λh=>h.symm.trans u
  by_cases vr:j<s.size
  ·have yq:(j:aw)<(s.size:aw):=by omega
   obtain⟨c2,vt⟩:=zE (((s[j]'vr).toNat:aw):aw);have vu:fu s j=c2:=by rw[<-jX vr];exact vt
   have vx:s.size-j=s.size-(j+1)+1:=by omega
   have v:=zH vt;have up:=zH (xT.out c2);have vd:=zH (yb.out c2);obtain⟨lf,vf⟩:=zE (fG c2);obtain⟨df,vh⟩:=zE (jA c2);rw[vf] at up;rw[vh] at vd;have vy:cj ((lf||df)=tP->∃j':bh,j'<=s.size/\eS .i64 ((j:aw)+1)= Z U (j':aw)/\dh s (s.size-j') j'=R):=λh=>⟨j+1,vr,by simp,by
    rw[vx] at u;unfold dh at u;rw[vu,vf,vh,cI h] at u;exact u⟩
   have xt:cj ((lf||df)=tR->j=R):=λh=>vc.out (by
    rw[vx];unfold dh;rw[vu,vf,vh,h];simp)
   clear u vt vu vf vh vx vc;cases lf with
   |true=>
    go_wp2_with (go_at_call 203;(try rw[v.out]);refine(up.out _).mono ?_;rintro e w4 ⟨rfl,rfl⟩)
    go_round
    case rel=>exact vy.out rfl
    case measure=>simp[de];omega
   |false=>
    cases df with
    |true=>
     go_wp2_with (first
      |(go_at_call 203;(try rw[v.out]);refine(up.out _).mono ?_;rintro e w4 ⟨rfl,rfl⟩)
      |(go_at_call 204;(try rw[v.out]);refine(vd.out _).mono ?_;rintro e w5 ⟨rfl,rfl⟩))
     go_round
     case rel=>exact vy.out rfl
     case measure=>simp[de];omega
    |false=>
     obtain rfl:j=R:=xt.out rfl;clear vy xt;obtain⟨d,f,A⟩:=E.out q (aq _ _);obtain⟨⟨a0,a1,a2,a3,a4⟩,⟨b0,b1,b2,b3,b4⟩,ur⟩:=fU f;clear d f A;have hst:=xo.out;have yi:=xp.out;obtain rfl:kd=if G=tP then 2 else 1:=wg.out.symm
     cases G with
     |false=>
      go_wp2_with (first
       |(go_at_call 203;(try rw[v.out]);refine(up.out _).mono ?_;rintro e w4 ⟨rfl,rfl⟩)
       |(go_at_call 204;(try rw[v.out]);refine(vd.out _).mono ?_;rintro e w5 ⟨rfl,rfl⟩)
       |(go_at_call 205;refine(J.out _).mono ?_;rintro e x ⟨rfl,g⟩;(try rw[ux.out] at g);obtain⟨d,f,o⟩:=E.out x g;obtain⟨⟨a0,a1,a2,a3,a4⟩,⟨b0,b1,b2,b3,b4⟩,ur⟩:=fU f;obtain⟨⟨g0,g1,g2,g3,g4⟩,⟨f0,f1,f2,f3,f4⟩,we⟩:=fU d;have y:=zH d;have z:=zH o;clear g d f o))
      (try simp only[dk,Exit.then]);refine er (aN rfl _ _ N 263 _ (0,0) _ rfl (jy y.out) im (by kernel_rfl)) rfl ?_;(try rw[HN.out]);exact⟨rfl,gy z.out (cg _) _ _ _ _ _⟩
     |true=>
      go_wp2_with (first
       |(go_at_call 203;(try rw[v.out]);refine(up.out _).mono ?_;rintro e w4 ⟨rfl,rfl⟩)
       |(go_at_call 204;(try rw[v.out]);refine(vd.out _).mono ?_;rintro e w5 ⟨rfl,rfl⟩)
       |(go_at_call 205;refine(J.out _).mono ?_;rintro e x ⟨rfl,g⟩;(try rw[ux.out] at g);obtain⟨d,f,o⟩:=E.out x g;obtain⟨⟨a0,a1,a2,a3,a4⟩,⟨b0,b1,b2,b3,b4⟩,ur⟩:=fU f;obtain⟨⟨g0,g1,g2,g3,g4⟩,⟨f0,f1,f2,f3,f4⟩,we⟩:=fU d;have y:=zH d;have z:=zH o;clear g d f o))
      (try simp only[dk,Exit.then]);refine er (aN rfl _ _ N 263 _ (0,0) _ rfl (jy ((dg _ _ _ N (by show N≠N+1;omega)).trans y.out)) im (by kernel_rfl)) rfl ?_;(try rw[HN.out]);exact⟨rfl,gy (z.out.setCell (by show N<=N+1;omega) _) (cg _) _ _ _ _ _⟩
  ·obtain rfl:j=s.size:=by omega
   obtain rfl:s.size=R:=vc.out (by rw[Nat.sub_self];rfl);clear u vc;obtain⟨d,f,A⟩:=E.out q (aq _ _);obtain⟨⟨a0,a1,a2,a3,a4⟩,⟨b0,b1,b2,b3,b4⟩,ur⟩:=fU f;clear d f A;have hst:=xo.out;have yi:=xp.out;obtain rfl:kd=if G=tP then 2 else 1:=wg.out.symm
   cases G with
   |false=>
    go_wp2_with (first
     |(go_at_call 205;refine(J.out _).mono ?_;rintro e x ⟨rfl,g⟩;(try rw[ux.out] at g);obtain⟨d,f,o⟩:=E.out x g;obtain⟨⟨a0,a1,a2,a3,a4⟩,⟨b0,b1,b2,b3,b4⟩,ur⟩:=fU f;obtain⟨⟨g0,g1,g2,g3,g4⟩,⟨f0,f1,f2,f3,f4⟩,we⟩:=fU d;have y:=zH d;have z:=zH o;clear g d f o))
    (try simp only[dk,Exit.then]);refine er (aN rfl _ _ N 263 _ (0,0) _ rfl (jy y.out) im (by kernel_rfl)) rfl ?_;(try rw[HN.out]);exact⟨rfl,gy z.out (cg _) _ _ _ _ _⟩
   |true=>
    go_wp2_with (first
     |(go_at_call 205;refine(J.out _).mono ?_;rintro e x ⟨rfl,g⟩;(try rw[ux.out] at g);obtain⟨d,f,o⟩:=E.out x g;obtain⟨⟨a0,a1,a2,a3,a4⟩,⟨b0,b1,b2,b3,b4⟩,ur⟩:=fU f;obtain⟨⟨g0,g1,g2,g3,g4⟩,⟨f0,f1,f2,f3,f4⟩,we⟩:=fU d;have y:=zH d;have z:=zH o;clear g d f o))
    (try simp only[dk,Exit.then]);refine er (aN rfl _ _ N 263 _ (0,0) _ rfl (jy ((dg _ _ _ N (by show N≠N+1;omega)).trans y.out)) im (by kernel_rfl)) rfl ?_;(try rw[HN.out]);exact⟨rfl,gy (z.out.setCell (by show N<=N+1;omega) _) (cg _) _ _ _ _ _⟩
theorem zx (s:bm)(i:bh)(w:World)(hs:s.size<=9000000)(hi:i+1<s.size)(v:fG (fu s i)=tR)(q:jA (fu s i)=tP)(x:fG (fu s (i+1))=tR)(y:jA (fu s (i+1))=tR):
  zP 168 #[tS s,Z U (i:aw)] w (.tuple #[D5 3 (s.extract i (i+1)) (fu s i-48),Z U 0]):=by
 have h:i<s.size:=by omega
 have K:=jX h;have R:=jX hi;obtain⟨c,z⟩:=zE (((s[i]'h).toNat:aw):aw);obtain⟨d,A⟩:=zE (((s[i+1]'hi).toNat:aw):aw);rw[<-K,z] at v q⊢;rw[<-R,A] at x y;have ue:=zH (λW=>gQ c W);have E:=zH (λW=>jN c W);have up:=zH (λW=>gQ d W);have ur:=zH (λW=>jN d W);rw[v] at ue;rw[q] at E;rw[x] at up;rw[y] at ur;have j:=zH z;have HD:=zH A;obtain⟨vt,vu⟩:=(wh c).1 q;obtain⟨N,o⟩:=zE w.heap.size;obtain⟨W1,f⟩:=zE (w.alloc (uc #[Z U 0,tS ⟨#[]⟩,Z U 0,Z U 0,Z U 0] 263));obtain⟨t,g⟩:=zE (W1.alloc (uc #[Z U 3,tS (s.extract i (i+1)),Z U (c-48),Z U 0,Z U 0] 263));have G:=iR f o;have J:W1.heap.size=N+1:=by rw[<-f];simp[o]
 have vd:aE N w t:=by rw[<-g];exact G.alloc (by omega) _
 have uv:t.heap[N]?=tG (uc #[Z U 0,tS ⟨#[]⟩,Z U 0,Z U 0,Z U 0] 263 (0,0)):=by rw[<-g,<-f,<-o];exact kp _ _ _
 have ux:t.heap[N+1]?=tG (uc #[Z U 3,tS (s.extract i (i+1)),Z U (c-48),Z U 0,Z U 0] 263 (0,0)):=by rw[<-g,<-J];exact alloc_at _ _
 have hst:∀(u:eA cA),u.size=5->(dt ⟨W1.heap.size,0,tM⟩ [Z U 3,tS (s.extract i (i+1)),Z U (c-48),Z U 0,Z U 0] 0).run am (W1.alloc (uc u 263))= .ok () t:=λu vf=>by
  rw[<-g];exact cx (P:=am) W1 263 u #[Z U 3,tS (s.extract i (i+1)),Z U (c-48),Z U 0,Z U 0] (by show _=tG 5;kernel_rfl) vf (by simp[ct])
 have vx:=zH hst;have vh:=zH J;have vm:=zH f;have HN:=zH o;have vp:=zH G;have vy:=zH uv;have vc:cj (W1.heap[N]?=tG (uc #[Z U 0,tS ⟨#[]⟩,Z U 0,Z U 0,Z U 0] 263 (0,0))):=by unfold cj;rw[<-f,<-o];exact alloc_at _ _
 have we:=zH g;have wg:=zH ux;clear v q x y K R z A hst f g G vd J uv ux;go_enter func168,ntmps168
 go_wp2_with (first
  |(go_at_call 203;(try rw[j.out]);refine(ue.out _).mono ?_;rintro e w2 ⟨rfl,rfl⟩)
  |(go_at_call 204;(try rw[j.out]);refine(E.out _).mono ?_;rintro e w2 ⟨rfl,rfl⟩))
 rw[vm.out]
 go_loop [6,8] (λk n=>(k= Z U (i:aw)/\n= Z U 0)\/(k= Z U ((i:aw)+1)/\n= Z U (c-48))) (λk _=>i+1-(de k).toNat)
 case atStart=>exact .inl ⟨rfl,rfl⟩
 case round=>
  have wj:(i:aw)<(s.size:aw):=by omega
  have wk:(i:aw)+1<(s.size:aw):=by omega
  rcases hrel with⟨rfl,rfl⟩|⟨rfl,rfl⟩
  ·have vq:=j.out
   have wl:48<=((s[i]'h).toNat:aw):=by omega
   have ws:((s[i]'h).toNat:aw)<=57:=by omega
   clear vq
   go_wp2_with (go_at_call 204;(try rw[j.out]);refine(E.out _).mono ?_;rintro e w2 ⟨rfl,rfl⟩)
   go_round
   case rel=>exact .inr ⟨rfl,by rw[j.out]⟩
   case measure=>simp[de]
  ·obtain⟨⟨g0,g1,g2,g3,g4⟩,⟨f0,f1,f2,f3,f4⟩,xf⟩:=fU vc.out
   have xj:=vh.out;have h1:(i:aw)+1-(i:aw)=1:=by omega
   have vr:¬(2147483647<c-48):=by omega
   have xo:decide (2147483647<c-48)=tR:=by simpa using vr
   obtain⟨bz,xp⟩:=zE (((s[i]'h).toNat:aw)==48);cases bz<;>(
    go_wp2_with (first
     |(go_at_call 203;(try rw[HD.out]);refine(up.out _).mono ?_;rintro e w2 ⟨rfl,rfl⟩)
     |(go_at_call 204;(try rw[HD.out]);refine(ur.out _).mono ?_;rintro e w2 ⟨rfl,rfl⟩))
    (try simp only[dk,Exit.then]);refine er (aN rfl _ _ N 263 _ (0,0) _ rfl ((cJ _ _ N (by simp;omega)).trans (jy vc.out)) im (by kernel_rfl)) rfl ?_;(try rw[HN.out]);exact⟨rfl,(gy vp.out (cg _) _ _ _ _ _).alloc (by simp;omega) _⟩)
theorem uF (w:World):ge am 206 #[] w λe w'=>e= ud (tU (tG ⟨w.heap.size,0,tM⟩) 20 20)/\w'=w.alloc (uc (gp.map fz).toArray 9):=by
 have d:(gp.map fz).toArray=#[tS ⟨#[45,62]⟩,tS ⟨#[60,61]⟩,tS ⟨#[62,61]⟩,tS ⟨#[61,61]⟩,tS ⟨#[33,61]⟩,tS ⟨#[43]⟩,tS ⟨#[45]⟩,tS ⟨#[42]⟩,tS ⟨#[47]⟩,tS ⟨#[37]⟩,tS ⟨#[60]⟩,tS ⟨#[62]⟩,tS ⟨#[33]⟩,tS ⟨#[61]⟩,tS ⟨#[40]⟩,tS ⟨#[41]⟩,tS ⟨#[123]⟩,tS ⟨#[125]⟩,tS ⟨#[44]⟩,tS ⟨#[59]⟩]:=rfl;rw[d];clear d;go_enter func206,ntmps206;go_wp2;go_ret;exact⟨rfl,rfl⟩
theorem xC:∀x∈gp,x.size<=2:=by decide
theorem sD {α:Type}{p:α->mm}:∀{l:bj α}{g:α},l.find? p=tG g->∃q:bh,l[q]?=tG g/\p g=tP/\∀(j:bh)(y:α),j<q->l[j]?=tG y->p y=tR
 |[],_,h=>by simp at h
 |a::l,g,h=>by
  by_cases d:p a=tP
  ·rw[List.find?_cons_of_pos d] at h
   obtain rfl:a=g:=by simpa using h
   exact⟨0,rfl,d,λj y f=>fL f (oR _)⟩
  ·rw[List.find?_cons_of_neg d] at h
   obtain⟨q,t,u,v⟩:=sD h;refine⟨q+1,by simpa using t,u,λj y f o=> ?_⟩;cases j with
   |zero=>
    have e:a=y:=by simpa using o
    rw[<-e];simpa using d
   |succ j=>exact v j y (by omega) (by simpa using o)
theorem BS (s g:bm)(i:bh)(w:World)(hs:s.size<=9000000)(hi:i<s.size)(A:fG (fu s i)=tR)(E:jA (fu s i)=tR)(hg:gp.find? (gT s i)=tG g):
  zP 168 #[tS s,Z U (i:aw)] w (.tuple #[D5 4 g 0,Z U 0]):=by
 have ur:=jX hi;obtain⟨c,G⟩:=zE (((s[i]'hi).toNat:aw):aw);rw[<-ur,G] at A E;have uv:=zH (λW=>gQ c W);have ux:=zH (λW=>jN c W);rw[A] at uv;rw[E] at ux;have HC:=zH G;obtain⟨q,J,vc,vd⟩:=sD hg;have ws:q<20:=(bl.1 J).1;obtain⟨N,K⟩:=zE w.heap.size;obtain⟨W1,t⟩:=zE (w.alloc (uc #[Z U 0,tS ⟨#[]⟩,Z U 0,Z U 0,Z U 0] 263));obtain⟨d,u⟩:=zE (W1.alloc (uc (gp.map fz).toArray 9));have vf:=iR t K;have R:W1.heap.size=N+1:=by rw[<-t];simp[K]
 have vh:aE N w d:=by rw[<-u];exact vf.alloc (by omega) _
 have vm:d.heap[N]?=tG (uc #[Z U 0,tS ⟨#[]⟩,Z U 0,Z U 0,Z U 0] 263 (0,0)):=by rw[<-u,<-t,<-K];exact kp _ _ _
 have vp:d.heap[N+1]?=tG (uc (gp.map fz).toArray 9 (0,0)):=by rw[<-u,<-R];exact alloc_at _ _
 have vt:cj (∀(j:bh)(x:bm),gp[j]?=tG x->d.cell? ⟨N+1,j,tM⟩=tG (tS x)):=λj x hx=>by
  rw[bw _ _ _ _ _ _ vp];simp[hx]
 have vq:=zH (uF W1);rw[R,u] at vq;have vu:=zH t;have vr:=zH vm;have vx:=zH vh;have HQ:=zH J;have vy:=zH vc;have we:=zH vd;have wg:cj (∀x∈gp,x.size<=2):=xC;have wj:cj (gp.length=20):=rfl;clear A E ur G J vc vd hg t u vf vh R vm vp;go_enter func168,ntmps168
 go_wp2_with (first
  |(go_at_call 203;(try rw[HC.out]);refine(uv.out _).mono ?_;rintro e w2 ⟨rfl,rfl⟩)
  |(go_at_call 204;(try rw[HC.out]);refine(ux.out _).mono ?_;rintro e w2 ⟨rfl,rfl⟩)
  |(go_at_call 206;rw[vu.out];refine vq.out.mono ?_;rintro e d ⟨rfl,rfl⟩))
 go_loopw [11] (λk wr=>∃j:bh,j<=q/\k= Z U (j:aw)/\∃n,wr=d.drewN n) (λk _=>20-(de k).toNat)
 case atStart=>exact⟨0,cN _,rfl,0,rfl⟩
 case round=>
  obtain⟨j,hj,rfl,n,rfl⟩:=hrel;have wk:j<20:=by omega
  have xf:(j:aw)<20:=by omega
  obtain⟨y,f⟩:∃y,gp[j]?=tG y:=⟨_,ap (by rw[wj.out];exact wk)⟩
  have xj:y.size<=2:=wg.out y (cd f);have d1:=vt.out j y f;have z:cj (gT s i y=tR->∀m:bh,∃j':bh,j'<=q/\eS .i64 ((j:aw)+1)= Z U (j':aw)/\∃n,d.drewN m=d.drewN n):=λh m=>⟨j+1,by
   by_cases e:j=q
   ·subst e
    have e2:y=g:=by have:=HQ.out;rw[f] at this;simpa using this
    rw[e2,vy.out] at h;cases h
   ·omega,by simp,m,rfl⟩
  have ue:cj (gT s i y=tP->y=g):=λh=>by
   by_cases e:j=q
   ·subst e
    have:=HQ.out;rw[f] at this;simpa using this
   ·have:=we.out j y (by omega) f
    rw[h] at this;cases this
  clear f
  by_cases h1:y.size<=s.size-i
  ·have o:(y.size:aw)<=(s.size:aw)-(i:aw):=by omega
   have wl:decide ((y.size:aw)<=(s.size:aw)-(i:aw))=tP:=by simpa using o
   obtain⟨be,up⟩:=zE (s.extract i (i+y.size)==y);have v:gT s i y=be:=by unfold gT;rw[up,cV h1];rfl
   rw[v] at z ue;have xo:((s.extract i (i+y.size)).toList==y.toList)=be:=by rw[<-fY];exact up
   have xp:(i:aw)+(y.size:aw)<=(s.size:aw):=by omega
   clear up v;cases be with
   |false=>
    clear o
    go_upto_region 26 with(fail)
    go_quiet (fail)
    go_wp2;go_roundw
    case rel=>exact z.out rfl _
    case measure=>simp[de];omega
   |true=>
    obtain rfl:y=g:=ue.out rfl;obtain⟨⟨a0,a1,a2,a3,a4⟩,⟨b0,b1,b2,b3,b4⟩,xt⟩:=fU vr.out;clear o
    go_upto_region 26 with(fail)
    go_quiet (fail)
    go_wp2;(try simp only[dk,Exit.then]);refine er (aN rfl _ _ N 263 _ (0,0) _ rfl (jy (vr.out)) im (by kernel_rfl)) rfl ?_;(try rw[HN.out]);exact⟨rfl,gy (qz vx.out _) (cg _) _ _ _ _ _⟩
  ·have o:¬(y.size:aw)<=(s.size:aw)-(i:aw):=by omega
   have wl:decide ((y.size:aw)<=(s.size:aw)-(i:aw))=tR:=by simpa using o
   have v:gT s i y=tR:=by unfold gT;rw[cv h1];rfl
   rw[v] at z ue;clear v o h1
   go_upto_region 26 with(fail)
   go_quiet (fail)
   go_wp2;go_roundw
   case rel=>exact z.out rfl _
   case measure=>simp[de];omega
theorem zy:∀x∈gp,0<x.size:=by decide
theorem D6 {s:bm}{i:bh}{t:BD}(hi:i<s.size)(h:BQ s i=tG t):i+t.2.1.size<=s.size/\0<t.2.1.size:=by
 unfold BQ at h
 split at h
 ·rename_i e
  split at h
  ·obtain rfl:=cE h
   have:=iF s (s.size-i) i;have f:i+1<=dh s (s.size-i) i:=by
    rw[show s.size-i=s.size-i-1+1 by omega];unfold dh;rw[e,Bool.true_or,cI rfl];exact(iF s _ _).1
   simp only[oX];omega
  ·cases h
 ·split at h
  ·split at h
   ·obtain rfl:=cE h
    simp only[oX];omega
   ·cases h
  ·obtain⟨g,d,rfl⟩:=ip.1 h
   have j:=zy g (List.mem_of_find?_eq_some d);have:=(List.find?_some d)
   unfold gT at this;rw[fj] at this;have:=m7 this.1
   show i+g.size<=s.size/\0<g.size
   omega
theorem zz (s:bm)(i:bh)(t:BD)(w:World)(d:s.size<=9000000)(hi:i<s.size)(h:BQ s i=tG t):
  zP 168 #[tS s,Z U (i:aw)] w (.tuple #[D5 t.1 t.2.1 t.2.2,Z U 0]):=by
 unfold BQ at h
 split at h
 ·rename_i e
  split at h
  ·rename_i u
   obtain rfl:=cE h;exact BR s i w d hi e u
  ·cases h
 ·rename_i e
  have o:fG (fu s i)=tR:=by simpa using e
  split at h
  ·rename_i f
   split at h
   ·rename_i q
    obtain rfl:=cE h;have j:=q.2;rw[Bool.or_eq_false_iff] at j;exact zx s i w d q.1 o f j.2 j.1
   ·cases h
  ·rename_i f
   obtain⟨g,v,rfl⟩:=ip.1 h;exact BS s g i w d hi o (by simpa using f) v
theorem Fg:(am.info? 263).map (λi=>(i.zero,i.size,i.bytes))=tG (tG (ub #[Z U 0,tS ⟨#[]⟩,Z U 0,Z U 0,Z U 0]),5,48):=by kernel_rfl
def uG (t:Tok):bj cA:=t.cells.toList
theorem aY {w:World}{base base':bh}{e:gt}{size n:bh}{v:cA}{xs:bj cA}(h:w.ownsRow base e size v n xs)(o:base'<=base):w.ownsRow base' e size v n xs:=by
 refine⟨h.1, ?_⟩;rcases h.2 with h|⟨g,cap,d,f,q,j⟩
 ·exact .inl h
 ·exact .inr ⟨g,cap,d,f,by omega,j⟩
def D7 (w:World)(l:bj BD)(e:Ending)(w':World):Prop:=
 ∃(v:cA) (T:bj Tok),e= ud (.tuple #[v,ub #[Z U 0,Z U 0,Z U 0,Z U 0]])/\w'.ownsRow w.heap.size 263 5 v T.length (T.flatMap uG)/\T.map Tok.sig=l++[(5,⟨#[]⟩,0)]/\aE w.heap.size w w'
def Fh (s:bm)(N:bh)(w:World)(R:bj BD)(A k:bh)(v:cA)(wr:World):Prop:=
 ∃(T:bj Tok) (l:bj BD) (n:bh) (a b:aw),k<=s.size/\lH s n k=tG l/\R=T.map Tok.sig++l/\T.length<=k/\wr.ownsRow (A+1) 263 5 v T.length (T.flatMap uG)/\
  wr.heap[A]?=tG (uc #[Z U a,Z U b] 40 (0,0))/\wr.heap[N]?=tG (uc #[Z U 0,Z U 0,Z U 0,Z U 0] 113 (0,0))/\aE N w wr
theorem xD (s:bm)(R:bj BD)(n0:bh)(w:World)(hs:s.size<=1000000)(yk:oF s)(h0:s.size≠0)(hR:lH s n0 (gG s s.size 0)=tG R):
  ge am 128 #[tS s] w (D7 w R):=by
 obtain⟨N,hN⟩:=zE w.heap.size;have wg:s.size<=9000000:=by omega
 have yp:cj (∀(i:bh)(W:World),i<=s.size->zS 166 #[tS s,Z U (i:aw)] W (Z U (gG s (s.size-i) i:bh))):=λi W hi=>xB s i W yk wg hi;have yq:cj (∀(s:bm)(n:bh)(w:World),s.size<=9000000->n<=s.size->ge am 167 #[tS s,Z U (n:aw)] w (Dt w)):=uE;have CD:cj (∀(i:bh)(t:BD)(w:World),i<s.size->BQ s i=tG t->zP 168 #[tS s,Z U (i:aw)] w (.tuple #[D5 t.1 t.2.1 t.2.2,Z U 0])):=λi t w hi h=>zz s i t w wg hi h;have vp:=yp.out 0;rw[Nat.sub_zero] at vp;obtain⟨k0,wj⟩:=zE (gG s s.size 0);rw[wj] at vp hR;have up:=lG s s.size 0;rw[wj] at up;have yr:k0<=s.size:=by omega
 have yv:=zH vp;obtain⟨W1,vc⟩:=zE (w.alloc (uc #[Z U 0,Z U 0,Z U 0,Z U 0] 113));have yy:=iR vc hN;have yW:W1.heap.size=N+1:=by rw[<-vc];simp[hN]
 have zc:W1.heap[N]?=tG (uc #[Z U 0,Z U 0,Z U 0,Z U 0] 113 (0,0)):=by rw[<-vc,<-hN];exact alloc_at _ _
 have zj:=zH vc;have zp:=zH yy;have vq:=zH yW;have zs:=zH zc;have HR:=zH hR;have HN:=zH hN;have E3:decide (1048576<(s.size:aw))=tR:=by rw[pl];omega
 clear yk vp wj up vc yy yW zc hR;go_enter func128,ntmps128
 go_upto_region 5 with(go_at_call 166;refine(yv.out _ (cN _)).mono ?_;rintro e w2 ⟨rfl,rfl⟩)
 rw[zj.out];have hst:∀(w:World)(a b:aw)(c:eA cA),c.size=2->(dt ⟨w.heap.size,0,tM⟩ [Z U a,Z U b] 0).run am (w.alloc (uc c 40))= .ok () (w.alloc (uc #[Z U a,Z U b] 40)):=λw a b c hc=>
  cx (P:=am) w 40 c #[Z U a,Z U b] (by show _=tG 2;kernel_rfl) hc (by simp[ct])
 have zv:=zH hst;clear hst
 go_upto_region 6 with(go_at_call 167;refine(yq.out s k0 _ wg yr).mono ?_;rintro e w3 ⟨a,b,rfl,An,ha,At,hb,Ax⟩;have wk:=zH Ax;clear Ax;have CH:=zv.out w3 a b)
 clear CH;obtain⟨A,hA⟩:=zE w3.heap.size;obtain⟨W4,vr⟩:=zE (w3.alloc (uc #[Z U a,Z U b] 40));rw[hA,vr];have E4:N+1<=A:=by rw[<-hA,<-vq.out];exact wk.out.size
 have ue:W4.heap[A]?=tG (uc #[Z U a,Z U b] 40 (0,0)):=by rw[<-vr,<-hA];exact alloc_at _ _
 have wl:=zD vr wk;have AD:Fh s N w R A k0 (tU tM 0 0) W4:=⟨[],R,n0,a,b,yr,HR.out,rfl,cN _,World.ownsRow_nil _ _ _ _,ue,(wl.block N (by have:=vq.out;omega)).trans zs.out,zp.out.trans (wl.mono (by have:=vq.out;omega))⟩
 have CM:=zH AD;clear hA vr ue wl AD wk HR zj zp vq zs yv An ha At hb
 go_loopw [4,5] (λv k wr=>∃j:bh,k= Z U (j:aw)/\Fh s N w R A j v wr) (λ_ k _=>s.size-(de k).toNat)
 case atStart=>exact⟨k0,rfl,CM.out⟩
 case round=>
  obtain⟨j,rfl,T,l,n,g,o,hj,hl,AE,E6,AF,ue,vt,AH⟩:=hrel;have CN:A+1<=wr.heap.size:=aa ue;have E7:T.length<=1000000:=by omega
  obtain⟨a0,a1⟩:=dz ue;obtain⟨c0,c1⟩:=mP vt;obtain⟨⟨p0,p1⟩,⟨q0,q1⟩,Fc⟩:=dz ue;obtain⟨⟨e0,e1,e2,e3⟩,⟨f0,f1,f2,f3⟩,CT⟩:=mP vt;clear a0 a1 c0 c1;have J:=zH AF;have AI:=zH ue;have AK:=zH vt;have AM:=zH AH;have AN:=zH AE;have HL:=zH hl;obtain⟨i0,AS,AT,AW,A0⟩:=kB Fg;clear AF ue vt AH AE hl
  by_cases vu:j<s.size
  ·have C4:(j:aw)<(s.size:aw):=by omega
   obtain⟨K,l2,n2,ws,vx,A1⟩:∃K l2 n2,BQ s j=tG K/\lH s n2 (gG s (s.size-(j+K.2.1.size)) (j+K.2.1.size))=tG l2/\l=K::l2:=by
    have:=HL.out;cases n with
    |zero=>simp[lH] at this
    |succ n=>
     unfold lH at this;rw[cI vu] at this
     split at this
     ·rename_i K C5
      obtain⟨l2,h1,h2⟩:=ip.1 this;exact⟨K,l2,n,C5,h1,h2.symm⟩
     ·cases this
   have A2:=D6 vu ws;have C6:=zH (CD.out j K wr vu ws);obtain⟨u,q,E⟩:=K;obtain⟨z,hz⟩:=zE q.size;simp only[hz] at A2 vx;obtain⟨C7,Fi⟩:=A2;obtain⟨f,A3⟩:=zE (gG s (s.size-(j+z)) (j+z));have up:=lG s (s.size-(j+z)) (j+z);have vy:=yp.out (j+z);rw[A3] at vy vx up;rw[ld] at vy;have Dd:f<=s.size:=by omega
   have Fk:j+z<=f:=up.1;have Dg:=zH vy;have Do:=zH vx;have Ds:=zH A1;have HZ:=zH hz;clear vy vx A1 up A3 ws;have hst:∀(w:World)(c:eA cA),c.size=5->(dt ⟨w.heap.size,0,tM⟩ [Z U u,tS q,Z U E,Z U 0,Z U 0] 0).run am (w.alloc (uc c 263))= .ok () (w.alloc (uc #[Z U u,tS q,Z U E,Z U 0,Z U 0] 263)):=λw c hc=>
    cx (P:=am) w 263 c #[Z U u,tS q,Z U E,Z U 0,Z U 0] (by show _=tG 5;kernel_rfl) hc (by simp[ct])
   have DA:=zH hst;clear hst
   go_upto_region 10 with(go_at_call 168;refine C6.out.mono ?_;rintro e w2 ⟨rfl,A4⟩;have xf:=zH A4;clear A4;have DB:=DA.out w2;unfold D5)
   clear DB;obtain⟨G,hG⟩:=zE w2.heap.size;obtain⟨W5,vd⟩:=zE (w2.alloc (uc #[Z U u,tS q,Z U E,Z U 0,Z U 0] 263));rw[hG,vd];have Fl:wr.heap.size<=G:=by rw[<-hG];exact xf.out.size
   have xj:=zD vd xf;have A5:W5.heap.size=G+1:=by rw[<-vd,<-hG];simp
   have xo:W5.heap[G]?=tG (uc #[Z U u,tS q,Z U E,Z U 0,Z U 0] 263 (0,0)):=by rw[<-vd,<-hG];exact alloc_at _ _
   have xp:=(xj.block A CN).trans AI.out;obtain⟨⟨p0,p1⟩,⟨q0,q1⟩,hA5⟩:=dz xp;obtain⟨⟨g0,g1,g2,g3,g4⟩,⟨f0,f1,f2,f3,f4⟩,Fm⟩:=fU xo;have DE:=zH xj;have DG:=zH xo;have Fo:=zH xp;clear hG vd xj xo xp xf
   go_upto_region 11 with(fail)
   obtain⟨W6,vf⟩:=zE ((W5.setCell ⟨G,3,tM⟩ (Z U g)).setCell ⟨G,4,tM⟩ (Z U o));rw[vf];have A6:Ext (·=G) W5 W6:=by rw[<-vf];exact(Ext.set1 W5 G 3 _).trans (Ext.set1 _ G 4 _) (λk d=> .inl d)
   have xt:W6.heap[G]?=tG (uc #[Z U u,tS q,Z U E,Z U g,Z U o] 263 (0,0)):=by
    rw[<-vf];have h1:=bk W5 G 3 _ _ (Z U g) DG.out;have h2:=bk _ G 4 _ _ (Z U o) h1;exact h2
   have DH:W6.heap.size=G+1:=by rw[<-vf];simp[A5]
   have vh:Ext (·=G) wr W6:=(Ext.of_below_size DE.out).trans A6 (λk d=> .inl d);have Bk:W6.ownsRow (A+1) 263 5 u4 T.length (T.flatMap uG):=ah J.out vh (λk d=>by have:=(ai J.out d).2;omega);have Bm:=vh.heap AI.out (by omega);have Bs:=vh.heap AK.out (by omega);have DM:=zH vh;have DO:=zH xt;have By:=zH Bk;have DP:=zH Bm;have DQ:=zH Bs;obtain⟨⟨g0,g1,g2,g3,g4⟩,⟨f0,f1,f2,f3,f4⟩,Fr⟩:=fU xt;clear vf A6 xt vh Bk Bm Bs p0 p1 q0 q1 A5
   go_upto_region 12 with(at_builtin;refine gF rfl (.tmp 39) (.tmp 41) 226 rfl (A+1) 263 i0 _ 5 48 underlying226 AS AT AW A0 rfl (by decide) _ T.length (T.flatMap uG) rfl By.out (G+1) #[Z U u,tS q,Z U E,Z U g,Z U o] DH.symm rfl rfl (by simp[ct]) (by unfold eC;omega) (by omega) (by omega) ?_;intro v7 w7 ur uv xF;have xT:=zH ur;have ux:=zH uv;clear ur uv xF)
   have ur:=By.out;have BE:=ux.out.heap DO.out (λh=>by have:=(ai J.out h).2;omega);have BT:=ux.out.heap DP.out (λh=>by have:=(ai J.out h).1;omega);have BY:=ux.out.heap DQ.out (λh=>by have:=(ai J.out h).1;omega);obtain⟨⟨g0,g1,g2,g3,g4⟩,⟨f0,f1,f2,f3,f4⟩,Ft⟩:=fU BE;have FA:A+1<=w7.heap.size:=by omega
   have DS:=zH BT;have D0:=zH BY;clear BE BT BY;have D1:s.extract j f=s.extract j f:=rfl;have D2:(s.extract j f).size=f-j:=by rw[oX];omega
   have yb:=yq.out (s.extract j f) (f-j) w7 (by omega) (by omega);rw[Int.ofNat_sub (by omega)] at yb;have D3:=zH yb;have FF:(j:aw)<=(f:aw):=by omega
   have FG:(f:aw)<=(s.size:aw):=by omega
   clear D1 D2 yb
   go_upto_region 14 with(first
    |(go_at_call 166;refine(Dg.out _ C7).mono ?_;rintro e w8 ⟨rfl,rfl⟩)
    |(go_at_call 167;refine D3.out.mono ?_;rintro e w8 ⟨a2,b2,rfl,An,ha,At,hb,B5⟩;have yd:=zH B5;clear B5;have D4:=zv.out w8 a2 b2))
   clear D4;obtain⟨C,hC⟩:=zE w8.heap.size;obtain⟨W9,we⟩:=zE (w8.alloc (uc #[Z U a2,Z U b2] 40));rw[hC,we];have vm:=zD we yd;have F0:w7.heap.size<=C:=by rw[<-hC];exact yd.out.size
   have B6:W9.heap[C]?=tG (uc #[Z U a2,Z U b2] 40 (0,0)):=by rw[<-we,<-hC];exact alloc_at _ _
   have ye:=(vm.block A (by omega)).trans DS.out;have B7:=(vm.block N (by omega)).trans D0.out;obtain⟨⟨p0,p1⟩,⟨q0,q1⟩,hA9⟩:=dz ye;obtain⟨⟨r0,r1⟩,⟨s0,s1⟩,F1⟩:=dz B6;have B8:=ownsRow_below xT.out vm;have B9:=zH B8;have Cd:=zH ye;have Ek:=zH B7;have Cl:aE N w W9:=AM.out.trans ((DM.out.below (by omega) (λk d=>by omega)).trans ((ux.out.below (by omega) (λk d=>by have:=(ai J.out d).1;omega)).trans (vm.mono (by omega))));have EV:=zH Cl;have Cp:(T++[(⟨u,q,E,g,o⟩:Tok)]).flatMap uG=T.flatMap uG++[Z U u,tS q,Z U E,Z U g,Z U o]:=by rw[gn];rfl
   have CA:cj (∀(x y:aw)(W:World),Ext (·=A) W9 W->W.heap[A]?=tG (uc #[Z U x,Z U y] 40 (0,0))->Fh s N w R A f v7 W):=λx y W hx hA=>
    ⟨T++[⟨u,q,E,g,o⟩],l2,n2,x,y,Dd,Do.out,by rw[AN.out,Ds.out,dp,eq];rfl,by rw[bo];simp;omega,
     by rw[Cp,bo];exact ah B9.out hx (λk d=>by have:=(ai B9.out d).1;omega),hA,hx.heap Ek.out (by omega),EV.out.trans (hx.below (by omega) (λk d=>by omega))⟩
   clear hC we vm B6 ye B7 B8 Cl Cp yd
   by_cases Ge:1<a2
   ·go_wp2
    go_roundw
    case rel=>exact⟨f,rfl,CA.out _ _ _ ((Ext.set1 W9 A 0 _).trans (Ext.set1 _ A 1 _) (λk d=> .inl d)) (bf Cd.out)⟩
    case measure=>simp[de];omega
   ·go_wp2
    go_roundw
    case rel=>exact⟨f,rfl,CA.out _ _ _ (Ext.set1 W9 A 1 _) (bk W9 A 1 _ _ _ Cd.out)⟩
    case measure=>simp[de];omega
  ·have C4:¬(j:aw)<(s.size:aw):=by omega
   have CC:l=[]:=by
    have:=HL.out;cases n with
    |zero=>simp[lH] at this
    |succ n=>unfold lH at this;rw[bx vu] at this;simpa using this.symm
   have E0:=zH CC;clear CC
   go_wp2_with (at_builtin;refine gF rfl (.tmp 78) (.tmp 81) 226 rfl (A+1) 263 i0 _ 5 48 underlying226 AS AT AW A0 rfl (by decide) _ T.length (T.flatMap uG) rfl J.out wr.heap.size #[Z U 5,tS ⟨#[]⟩,Z U 0,Z U g,Z U o] rfl rfl rfl (by simp[ct]) (by unfold eC;omega) (by omega) (by omega) ?_;intro v7 w7 ur uv xF;have xT:=zH ur;have ux:=zH uv;have yi:=uv.heap AK.out (λh=>by have:=(ai J.out h).1;omega);obtain⟨⟨e0,e1,e2,e3⟩,⟨f0,f1,f2,f3⟩,CT⟩:=mP yi;have E2:=zH yi;clear ur uv xF yi)
   (try simp only[dk,Exit.then]);refine er (iH rfl _ _ N 113 _ (0,0) _ rfl (jw E2.out) pw (by kernel_rfl)) rfl ?_;refine⟨v7,T++[⟨5,⟨#[]⟩,0,g,o⟩],rfl, ?_, ?_, ?_⟩
   ·rw[HN.out]
    have h1:=xT.out;rw[show(T++[(⟨5,⟨#[]⟩,0,g,o⟩:Tok)]).flatMap uG=T.flatMap uG++[Z U 5,tS ⟨#[]⟩,Z U 0,Z U g,Z U o] by rw[gn];rfl,bo];exact aY (lR (lR (lR (lR h1 (by show N<_;omega) _) (by show N<_;omega) _) (by show N<_;omega) _) (by show N<_;omega) _) (by omega)
   ·rw[dp,AN.out,E0.out,ej];rfl
   ·rw[HN.out]
    exact sw (AM.out.trans (ux.out.below (by omega) (λk d=>by have:=(ai J.out d).1;omega))) (cg _) _ _ _ _
structure Rd (r lb cap:bh)(T:bj Tok)(i:bh)(w:World):Prop where
 row:w.heap[r]?=tG (uc #[tU (tG ⟨lb,0,tM⟩) T.length cap,Z U (i:aw),Z U 0,Z U 0,Z U 0,Z U 0] 269 (0,0))
 toks:∀(k:bh)(t:Tok),T[k]?=tG t->∀(j:bh)(u:cA),t.cells.toList[j]?=tG u->w.cell? ⟨lb,k*5+j,tM⟩=tG u
 ne:lb≠r
 lt:lb<w.heap.size
 short:T.length<=1000000
section
variable {r lb cap:bh}{T:bj Tok}{i:bh}{w w':World}
theorem Rd.ext {M:bh->Prop}(h:Rd r lb cap T i w)(d:Ext M w w')(e:¬M r)(f:¬M lb):Rd r lb cap T i w':=
 ⟨d.heap h.row e,λk t g j u o=>by rw[d.cell (a:=⟨lb,k*5+j,tM⟩) h.lt f];exact h.toks k t g j u o,h.ne,cH h.lt d.size,h.short⟩
theorem Rd.grow (h:Rd r lb cap T i w)(d:aE w.heap.size w w'):Rd r lb cap T i w':=h.ext (Ext.of_below_size (M:=λ_=>me) d) (λh=>h) (λh=>h)
theorem Rd.rlt (h:Rd r lb cap T i w):r<w.heap.size:=aa h.row
theorem Rd.step (h:Rd r lb cap T i w):Rd r lb cap T (i+1) (w.setCell ⟨r,1,tM⟩ (Z U ((i:aw)+1))):=
 ⟨by have:=bk w r 1 _ _ (Z U ((i:aw)+1)) h.row;rw[this];simp,λk t d j u e=>by rw[(Ext.set1 w r 1 _).cell (a:=⟨lb,k*5+j,tM⟩) h.lt h.ne];exact h.toks k t d j u e,h.ne,by rw[World.size_setCell];exact h.lt,h.short⟩
theorem Rd.cells (h:Rd r lb cap T i w):w.cell? ⟨r,0,tM⟩=tG (tU (tG ⟨lb,0,tM⟩) T.length cap)/\w.cell? ⟨r,1,tM⟩=tG (Z U (i:aw))/\w.cell? ⟨r,3,tM⟩=tG (Z U 0)/\w.frozen? ⟨r,1,tM⟩=tR/\r<w.heap.size:=
 ⟨(rowAt h.row 0 rfl).1,(rowAt h.row 1 rfl).1,(rowAt h.row 3 rfl).1,(rowAt h.row 1 rfl).2,aa h.row⟩
end
def bQ (r lb cap:bh)(T:bj Tok)(j:bh)(w w':World):Prop:=Rd r lb cap T j w'/\Ext (·=r) w w'
theorem bQ.trans {r lb cap:bh}{T:bj Tok}{j d:bh}{w e w2:World}(h:bQ r lb cap T j w e)(f:bQ r lb cap T d e w2):bQ r lb cap T d w w2:=⟨f.1,h.2.trans f.2 (λ_ g=> .inl g)⟩
theorem bQ.grow {r lb cap:bh}{T:bj Tok}{j:bh}{w d w2:World}(h:bQ r lb cap T j w d)(e:aE d.heap.size d w2):bQ r lb cap T j w w2:=⟨h.1.grow e,h.2.trans (Ext.of_below_size (M:=λ_=>me) e) (λ_ f=>f.elim)⟩
theorem bQ.grown {r lb cap:bh}{T:bj Tok}{j:bh}{w d w2:World}(e:aE w.heap.size w d)(h:bQ r lb cap T j d w2):bQ r lb cap T j w w2:=⟨h.1,(Ext.of_below_size e).trans h.2 (λ_ f=> .inl f)⟩
theorem bI {r lb cap:bh}{T:bj Tok}{i:bh}(w:World)(h:Rd r lb cap T i w):zS 171 #[tW (tG ⟨r,0,tM⟩)] w (ua tR):=by
 obtain⟨_,_,c3,_,d⟩:=h.cells;go_enter func171,ntmps171;go_wp2;go_ret;exact⟨rfl,rfl⟩
theorem bJ {r lb cap:bh}{T:bj Tok}{i:bh}{t:Tok}(w:World)(h:Rd r lb cap T i w)(d:T[i]?=tG t):
  zP 170 #[tW (tG ⟨r,0,tM⟩)] w (ub t.cells):=by
 obtain⟨N,f⟩:=zE w.heap.size;obtain⟨W1,g⟩:=zE (w.alloc (uc #[Z U 0,tS ⟨#[]⟩,Z U 0,Z U 0,Z U 0] 263));have j:=iR g f;have e:Rd r lb cap T i W1:=h.grow (by rw[f];exact j);have o:W1.heap[N]?=tG (uc #[Z U 0,tS ⟨#[]⟩,Z U 0,Z U 0,Z U 0] 263 (0,0)):=by rw[<-g,<-f];exact alloc_at _ _
 obtain⟨c0,c1,_,_,z⟩:=e.cells;have A:i<T.length:=(bl.1 d).1;have E:=h.short;obtain⟨⟨G,J,K,R,g4⟩,⟨f0,f1,f2,f3,f4⟩,ue⟩:=fU o;have q:=e.toks i t d 0 _ rfl;have k1:=e.toks i t d 1 _ rfl;have k2:=e.toks i t d 2 _ rfl;have k3:=e.toks i t d 3 _ rfl;have k4:=e.toks i t d 4 _ rfl;rw[ki] at q;have up:min (i:aw) ((T.length:aw)-1)=(i:aw):=by omega
 have hw:dT.wrap ((T.length:aw)-1)=(T.length:aw)-1:=IntWalk.i64_in _ (by omega);have u:=zH j;have v:=zH o;have x:=zH g;clear h e d j o g;go_enter func170,ntmps170
 go_upto_region 1 with(fail)
 rw[x.out];refine qV 17 0 rfl (by kernel_rfl) (by kernel_rfl) (by kernel_rfl) (·=W1.drew) rfl ?_;dsimp only[List.take]
 repeat (go_big_quiet_step (fail))
 refine dj ?_;rintro _ rfl;refine wpOp_step rfl λK' y=> ?_;rw[cI (by rfl)];go_simp;refine y _ _ ?_;refine⟨by kernel_rfl, ?_⟩;go_wp2;refine er (fk (P:=am) rfl _ _ N 263 t.cells (0,0) _ rfl (jy v.out) im rfl (by kernel_rfl)) rfl ?_;(try rw[f]);exact⟨rfl,(gy u.out (cg _) _ _ _ _ _).drew⟩
def dQ (t:Tok)(s:bm):mm:=(t.kind==2||t.kind==4)&&t.text==s
theorem bF {r lb cap:bh}{T:bj Tok}{i:bh}{t:Tok}(s:bm)(w:World)(h:Rd r lb cap T i w)(u:T[i]?=tG t):
  zP 172 #[tW (tG ⟨r,0,tM⟩),tS s] w (ua (dQ t s)):=by
 have g:=zH (bJ w h u);have v:cj (∀W,aE w.heap.size w W->zS 171 #[tW (tG ⟨r,0,tM⟩)] W (ua tR)):=λW x=>bI W (h.grow x);have hst:∀(w:World)(c:eA cA),c.size=5->(dt ⟨w.heap.size,0,tM⟩ [Z U t.kind,tS t.text,Z U t.n,Z U t.ln,Z U t.cl] 0).run am (w.alloc (uc c 263))= .ok () (w.alloc (uc #[Z U t.kind,tS t.text,Z U t.n,Z U t.ln,Z U t.cl] 263)):=λw c y=>
  cx (P:=am) w 263 c #[Z U t.kind,tS t.text,Z U t.n,Z U t.ln,Z U t.cl] (by show _=tG 5;kernel_rfl) y (by simp[ct])
 have z:=zH hst;obtain⟨j,A⟩:=zE (t.kind==2);obtain⟨o,E⟩:=zE (t.kind==4);obtain⟨f,q⟩:=zE (t.text==s);have hF:dQ t s=((j||o)&&f):=by unfold dQ;rw[A,E,q]
 have J:(t.text.toList==s.toList)=f:=by rw[<-fY];exact q
 rw[hF];simp only[Tok.cells] at g;cases j<;>cases o<;>cases f<;>(
  go_enter func172,ntmps172
  go_wp2_with (first
   |(go_at_call 170;refine g.out.mono ?_;rintro e w2 ⟨rfl,G⟩;have K:=z.out w2;have d:=zH G)
   |(go_at_call 171;refine(v.out _ (d.out.alloc d.out.size _)).mono ?_;rintro e R ⟨rfl,rfl⟩))
  go_ret;exact⟨rfl,d.out.alloc d.out.size _⟩)
theorem bi {r lb cap:bh}{T:bj Tok}{i:bh}{t:Tok}(s:bm)(w:World)(h:Rd r lb cap T i w)(d:T[i]?=tG t)(hF:dQ t s=tP):
  ge am 207 #[tW (tG ⟨r,0,tM⟩),tS s] w λe w'=>e= ud (.tuple #[])/\bQ r lb cap T (i+1) w w':=by
 have g:=zH (bF s w h d);rw[hF] at g;have H:=zH h;have u:i<T.length:=(bl.1 d).1;have v:=h.short;clear h d hF;go_enter func207,ntmps207
 go_wp2_with (go_at_call 172;refine g.out.mono ?_;rintro e w2 ⟨rfl,f⟩;have j:=zH (H.out.grow f);have o:cj (bQ r lb cap T (i+1) w (w2.setCell ⟨r,1,tM⟩ (Z U ((i:aw)+1)))):=⟨j.out.step,(Ext.of_below_size (M:=(·=r)) f).trans (Ext.set1 w2 r 1 _) (λk q=> .inl q)⟩;obtain⟨c0,c1,c3,f1,x⟩:=j.out.cells;clear f)
 go_end0
 exact⟨rfl,o.out⟩
theorem uH {r lb cap:bh}{T:bj Tok}{i:bh}(d:aw)(w:World)(h:Rd r lb cap T i w)(f:d<=200):
  zS 242 #[tW (tG ⟨r,0,tM⟩),Z U d] w (ua tP):=by
 have g:=zH (bI w h);have j:decide (200<d)=tR:=by rw[pl];omega
 have o:¬200<d:=by omega
 clear h f;go_enter func242,ntmps242
 go_wp2_with (go_at_call 171;refine g.out.mono ?_;rintro e w2 ⟨rfl,rfl⟩)
 go_ret;exact⟨rfl,rfl⟩
theorem eP {r lb cap:bh}{T:bj Tok}{i:bh}{t:Tok}(w:World)(h:Rd r lb cap T i w)(A:T[i]?=tG t)(d:t.kind=1):
  ge am 208 #[tW (tG ⟨r,0,tM⟩)] w λe w'=>e= ud (.tuple #[tS t.text,ub #[Z U t.ln,Z U t.cl]])/\bQ r lb cap T (i+1) w w':=by
 obtain⟨N,f⟩:=zE w.heap.size;obtain⟨W1,j⟩:=zE (w.alloc (uc #[Z U 0,Z U 0] 40));have E:=iR j f;have up:W1.heap.size=N+1:=by rw[<-j];simp[f]
 have ur:W1.heap[N]?=tG (uc #[Z U 0,Z U 0] 40 (0,0)):=by rw[<-j,<-f];exact alloc_at _ _
 have u:=h.grow (by rw[f];exact E);have J:=zH (bJ W1 u A);have uv:cj (∀W,aE W1.heap.size W1 W->zS 171 #[tW (tG ⟨r,0,tM⟩)] W (ua tR)):=λW hW=>bI W (u.grow hW);have hst:∀(w:World)(c:eA cA),c.size=5->(dt ⟨w.heap.size,0,tM⟩ [Z U t.kind,tS t.text,Z U t.n,Z U t.ln,Z U t.cl] 0).run am (w.alloc (uc c 263))= .ok () (w.alloc (uc #[Z U t.kind,tS t.text,Z U t.n,Z U t.ln,Z U t.cl] 263)):=λw c hc=>
  cx (P:=am) w 263 c #[Z U t.kind,tS t.text,Z U t.n,Z U t.ln,Z U t.cl] (by show _=tG 5;kernel_rfl) hc (by simp[ct])
 rw[d] at hst;have vp:=zH hst;have xo:i<T.length:=(bl.1 A).1;have hT:=h.short;have xp:r<N:=by rw[<-f];exact h.rlt
 have ux:lb<N:=by rw[<-f];exact h.lt
 have vq:=zH ux;clear ux;have vr:=zH j;have vt:=zH E;have vc:=zH up;have vu:=zH ur;have H1:=zH u;simp only[Tok.cells,d] at J;clear h A d hst j E up ur u;go_enter func208,ntmps208
 go_upto_region 2 with(go_at_call 170;rw[vr.out];refine J.out.mono ?_;rintro e w2 ⟨rfl,vd⟩;have vx:=vp.out w2;have vf:=zH vd;clear vd)
 clear vx;obtain⟨G,v⟩:=zE w2.heap.size;obtain⟨o,x⟩:=zE (w2.alloc (uc #[Z U 1,tS t.text,Z U t.n,Z U t.ln,Z U t.cl] 263));rw[v,x];have q:=zD x vf;have xt:N+1<=G:=by rw[<-v,<-vc.out];exact vf.out.size
 have K:o.heap[G]?=tG (uc #[Z U 1,tS t.text,Z U t.n,Z U t.ln,Z U t.cl] 263 (0,0)):=by rw[<-x,<-v];exact alloc_at _ _
 have R:=(q.block N (by have:=vc.out;omega)).trans vu.out;have h3:=H1.out.grow q;obtain⟨c0,c1,c3,f1,hr⟩:=h3.cells;obtain⟨⟨g0,g1,g2,g3,g4⟩,⟨e0,e1,e2,e3,e4⟩,vy⟩:=fU K;obtain⟨⟨p0,p1⟩,⟨q0,q1⟩,we⟩:=dz R;have wg:=zH (uv.out o q);have wj:=zH q;have wk:=zH K;have wl:=zH R;have H3:=zH h3;clear v x q K R h3 uv J
 go_upto_region 6 with(go_at_call 171;refine wg.out.mono ?_;rintro e w2 ⟨rfl,rfl⟩)
 obtain⟨g,y⟩:=zE (o.setCell ⟨r,1,tM⟩ (Z U ((i:aw)+1)));rw[y];have z:Ext (·=r) o g:=by rw[<-y];exact Ext.set1 o r 1 _
 have vh:=z.heap wk.out (by omega);have ue:=z.heap wl.out (by omega);have h4:Rd r lb cap T (i+1) g:=by rw[<-y];exact H3.out.step
 obtain⟨⟨g0,g1,g2,g3,g4⟩,⟨e0,e1,e2,e3,e4⟩,vy⟩:=fU vh;obtain⟨⟨p0,p1⟩,⟨q0,q1⟩,we⟩:=dz ue;have ws:=zH z;have xf:=zH ue;have H4:=zH h4;clear y z vh ue h4 c0 c1 c3 f1 hr
 go_region
 go_wp2;(try simp only[dk,Exit.then]);have xj:bQ r lb cap T (i+1) w g:=⟨H4.out,((Ext.of_below_size (M:=(·=r)) (show aE w.heap.size w W1 by rw[f];exact vt.out)).trans (Ext.of_below_size (M:=(·=r)) wj.out) (λk d=> .inl d)).trans ws.out (λk d=> .inl d)⟩
 have vm:Ext (·=N) g (((g.setCell ⟨N,0,tM⟩ (Z U t.ln)).setCell ⟨N,1,tM⟩ (Z U t.cl)).drew):=((Ext.set1 g N 0 _).trans (Ext.set1 _ N 1 _) (λk d=> .inl d)).drew;refine er (iH rfl _ _ N 40 _ (0,0) _ rfl (bf xf.out) nh (by kernel_rfl)) rfl ?_;refine⟨rfl,H4.out.ext vm (by omega) (λe=> ?_),xj.2.trans vm (λk d=> .inr (by omega))⟩;have:=vq.out;omega
def mQ (t:Tok)(l:bj bm):mm:=l.any λs=>dQ t s
def pV (w:World)(b:bh)(l:bj bm):Prop:=∀(k:bh)(x:bm),l[k]?=tG x->w.cell? ⟨b,k,tM⟩=tG (tS x)
theorem iI {r lb cap:bh}{T:bj Tok}{i:bh}{t:Tok}(b c:bh)(l:bj bm)(w:World)(h:Rd r lb cap T i w)(G:T[i]?=tG t)(hl:l.length<=20)(hb:b<w.heap.size)(J:pV w b l):
  zP 260 #[tW (tG ⟨r,0,tM⟩),tU (tG ⟨b,0,tM⟩) l.length c] w (ua (mQ t l)):=by
 have up:cj (∀s W,aE w.heap.size w W->zP 172 #[tW (tG ⟨r,0,tM⟩),tS s] W (ua (dQ t s))):=λs W hW=>bF s W (h.grow hW) G;have ur:=zH J;have HB:=zH hb;clear h G J;go_enter func260,ntmps260;go_wp2
 go_loopw [5] (λk wr=>∃j:bh,k= Z U (j:aw)/\j<=l.length/\(∀x∈l.take j,dQ t x=tR)/\aE w.heap.size w wr) (λk _=>l.length-(de k).toNat)
 case atStart=>exact⟨0,rfl,cN _,by simp,aq _ _⟩
 case round=>
  obtain⟨j,rfl,hj,u,d⟩:=hrel;have HZ:=zH u;have f:=zH d
  by_cases K:j<l.length
  ·have uv:(j:aw)<(l.length:aw):=by omega
   obtain⟨x,g⟩:∃x,l[j]?=tG x:=⟨_,ap K⟩
   have hc:wr.cell? ⟨b,j,tM⟩=tG (tS x):=(d.cell (p:=⟨b,j,tM⟩) HB.out).trans (ur.out j x g);have v:=zH (up.out x wr d);obtain⟨q,z⟩:=zE (dQ t x);rw[z] at v;have R:=zH z;have HX:=zH g;clear u d g z;cases q with
   |true=>
    have A:cj (tP=mQ t l):=by unfold cj mQ;rw[eq_comm,kh];exact⟨x,cd HX.out,R.out⟩
    go_wp2_with (go_at_call 172;refine v.out.mono ?_;rintro e w2 ⟨rfl,o⟩;have E:=zH (f.out.trans (o.mono f.out.size));clear o)
    go_ret;rw[<-A.out];exact⟨rfl,E.out⟩
   |false=>
    go_wp2_with (go_at_call 172;refine v.out.mono ?_;rintro e w2 ⟨rfl,o⟩;have E:=zH (f.out.trans (o.mono f.out.size));clear o)
    go_roundw
    case rel=>
     refine⟨j+1,by go_num,K,λy hy=> ?_,E.out⟩;rw[ju,HX.out] at hy;rcases cX.1 hy with h|h
     ·exact HZ.out y h
     ·have e:y=x:=by simpa using h
      rw[e];exact R.out
    case measure=>simp[de];omega
  ·have ue:j=l.length:=by omega
   have A:cj (tR=mQ t l):=by
    unfold cj mQ;rw[eq_comm,lx];intro x g;rw[u x (by rw[ue,cR];exact g)];simp
   clear u d;subst ue;go_wp2;go_ret;rw[<-A.out];exact⟨rfl,f.out⟩
def jY:bm:=⟨#[42]⟩
def xE:bm:=⟨#[105,110,116]⟩
theorem xG {r lb cap:bh}{T:bj Tok}{i:bh}{u:Tok}(w:World)(h:Rd r lb cap T i w)(d:T[i+1]?=tG u)(f:u.kind=4):
  zP 262 #[tW (tG ⟨r,0,tM⟩)] w (ua (u.text==jY)):=by
 obtain⟨c0,c1,_,_,q⟩:=h.cells;have t:i+1<T.length:=(bl.1 d).1;have v:=h.short;have g:=h.toks (i+1) u d 0 _ rfl;have x:=h.toks (i+1) u d 1 _ rfl;rw[ki] at g;rw[f] at g;have y:dT.wrap ((i:aw)+1)=(i:aw)+1:=IntWalk.i64_in _ (by omega);have z:decide ((i:aw)+1<(T.length:aw))=tP:=by rw[oE];omega
 have A:(i:aw)+1<(T.length:aw):=by omega
 have E:0<=(i:aw)+1:=by omega
 have G:((i:aw)+1).toNat=i+1:=by omega
 obtain⟨b,e⟩:=zE (u.text==jY);have o:(u.text.toList==jY.toList)=b:=by rw[<-fY];exact e
 rw[e];have j:jY.toList=[42]:=by rw[py];rfl
 rw[j] at o;clear h d f e j;cases b<;>(
  go_enter func262,ntmps262
  go_upto_region 1 with(fail)
  go_quiet (fail)
  go_wp2;go_ret;exact⟨rfl,qz (aq _ _) _⟩)
inductive xH (T:bj Tok) (i:bh):Ty->bh->Prop
 |int (t:Tok):T[i]?=tG t->dQ t xE=tP->xH T i bM (i+1)
 |ptr (t u:Tok):T[i]?=tG t->t.kind=1->T[i+1]?=tG u->dQ u jY=tP->xH T i (tP,t.text) (i+2)
def IK (t:Ty):cA:= ub #[ua t.1,tS t.2]
theorem mi {t:Tok}{s:bm}(h:t.kind=1):dQ t s=tR:=by unfold dQ;rw[h];rfl
theorem D8 {r lb cap:bh}{T:bj Tok}{i:bh}{t:Tok}(w:World)(h:Rd r lb cap T i w)(o:T[i]?=tG t)(d:dQ t xE=tP):
  ge am 209 #[tW (tG ⟨r,0,tM⟩)] w λe w'=>e= ud (ub #[ua tR,tS ⟨#[]⟩])/\bQ r lb cap T (i+1) w w':=by
 obtain⟨N,f⟩:=zE w.heap.size;obtain⟨W1,g⟩:=zE (w.alloc (uc #[ua tR,tS ⟨#[]⟩] 32));have q:=iR g f;have z:W1.heap[N]?=tG (uc #[ua tR,tS ⟨#[]⟩] 32 (0,0)):=by rw[<-g,<-f];exact alloc_at _ _
 have A:W1.heap.size=N+1:=by rw[<-g];simp[f]
 have x:=h.grow (by rw[f];exact q);have y:=zH (bF xE W1 x o);rw[d] at y;unfold xE at y;have vd:i<T.length:=(bl.1 o).1;have hT:=h.short;have vf:r<N:=by rw[<-f];exact h.rlt
 have R:cj (lb<N):=by unfold cj;rw[<-f];exact h.lt
 have ue:=zH g;have up:=zH q;have ur:=zH z;have uv:=zH A;have H1:=zH x;clear h o d g q z x A;go_enter func209,ntmps209
 go_upto_region 2 with(go_at_call 172;rw[ue.out];refine y.out.mono ?_;rintro e w2 ⟨rfl,j⟩;have ux:=zH j;have E:=zH (H1.out.grow j);have G:=zH ((j.block N (by rw[uv.out];omega)).trans ur.out);clear j)
 obtain⟨c0,c1,c3,f1,hr⟩:=E.out.cells;obtain⟨⟨p0,p1⟩,⟨q0,q1⟩,vh⟩:=dz G.out;have vc:N≠r:=by omega
 go_wp2;(try simp only[dk,Exit.then]);refine er (fk (P:=am) rfl _ _ N 32 _ (0,0) _ rfl (bf ((dg _ _ _ N vc).trans G.out)) eM rfl (by kernel_rfl)) rfl ?_;have J:bQ r lb cap T (i+1) w (w2.setCell ⟨r,1,tM⟩ (Z U ((i:aw)+1))):=⟨E.out.step,((Ext.of_below_size (M:=(·=r)) (show aE w.heap.size w W1 by rw[f];exact up.out)).trans (Ext.of_below_size (M:=(·=r)) ux.out) (λk d=> .inl d)).trans (Ext.set1 w2 r 1 _) (λk d=> .inl d)⟩
 have K:∀W u v,Ext (·=N) W ((W.setCell ⟨N,0,tM⟩ u).setCell ⟨N,1,tM⟩ v):=λW u v=>(Ext.set1 W N 0 u).trans (Ext.set1 _ N 1 v) (λk d=> .inl d);exact⟨rfl,J.1.ext (K _ _ _) (by omega) (by have:=R.out;omega),J.2.trans (K _ _ _) (λk d=> .inr (by omega))⟩
theorem wm {r lb cap:bh}{T:bj Tok}{i:bh}{t u:Tok}(w:World)(h:Rd r lb cap T i w)(j:T[i]?=tG t)(f:t.kind=1)(E:T[i+1]?=tG u)(G:dQ u jY=tP):
  ge am 209 #[tW (tG ⟨r,0,tM⟩)] w λe w'=>e= ud (ub #[ua tP,tS t.text])/\bQ r lb cap T (i+2) w w':=by
 obtain⟨N,d⟩:=zE w.heap.size;obtain⟨W1,g⟩:=zE (w.alloc (uc #[ua tR,tS ⟨#[]⟩] 32));have o:=iR g d;have J:W1.heap[N]?=tG (uc #[ua tR,tS ⟨#[]⟩] 32 (0,0)):=by rw[<-g,<-d];exact alloc_at _ _
 have K:W1.heap.size=N+1:=by rw[<-g];simp[d]
 have q:=h.grow (by rw[d];exact o);have x:=zH (bF xE W1 q j);rw[mi f] at x;unfold xE at x;have vm:cj (∀W,aE W1.heap.size W1 W->ge am 208 #[tW (tG ⟨r,0,tM⟩)] W λe w'=>e= ud (.tuple #[tS t.text,ub #[Z U t.ln,Z U t.cl]])/\bQ r lb cap T (i+1) W w'):=λW y=>eP W (q.grow y) j f;have R:cj (∀W,Rd r lb cap T (i+1) W->ge am 207 #[tW (tG ⟨r,0,tM⟩),tS jY] W λe w'=>e= ud (.tuple #[])/\bQ r lb cap T (i+1+1) W w'):=λW y=>bi jY W y E G;unfold jY at R;have wg:r<N:=by rw[<-d];exact h.rlt
 have vp:cj (lb<N):=by unfold cj;rw[<-d];exact h.lt
 have hst:∀(w:World)(c:eA cA),c.size=2->(dt ⟨w.heap.size,0,tM⟩ [Z U t.ln,Z U t.cl] 0).run am (w.alloc (uc c 40))= .ok () (w.alloc (uc #[Z U t.ln,Z U t.cl] 40)):=λw c hc=>
  cx (P:=am) w 40 c #[Z U t.ln,Z U t.cl] (by show _=tG 2;kernel_rfl) hc (by simp[ct])
 have vq:=zH hst;have vr:=zH g;have vt:=zH o;have vu:=zH J;have wj:=zH K;clear h j f E G g o J q K hst;go_enter func209,ntmps209
 go_upto_region 5 with(first
  |(go_at_call 172;rw[vr.out];refine x.out.mono ?_;rintro e w2 ⟨rfl,ue⟩;have up:=zH ue;clear ue)
  |(go_at_call 208;refine(vm.out _ up.out).mono ?_;rintro e w3 ⟨rfl,ur⟩;have vx:=zH ur;have vy:=vq.out w3;clear ur))
 clear vy;obtain⟨W4,z⟩:=zE (w3.alloc (uc #[Z U t.ln,Z U t.cl] 40));rw[z];have uv:=il z;have ux:bQ r lb cap T (i+1) W1 W4:=(bQ.grown up.out vx.out).grow uv;have vc:=zH ux;clear z uv ux
 go_upto_region 6 with(go_at_call 207;refine(R.out _ vc.out.1).mono ?_;rintro e w5 ⟨rfl,vd⟩;have vf:=zH (vc.out.trans vd);clear vd)
 have A:=vf.out.2.heap vu.out (by omega);have we:=zH A;obtain⟨⟨p0,p1⟩,⟨q0,q1⟩,wk⟩:=dz A;clear A;go_wp2;(try simp only[dk,Exit.then]);refine er (fk (P:=am) rfl _ _ N 32 _ (0,0) _ rfl (bf we.out) eM rfl (by kernel_rfl)) rfl ?_;have hM:bQ r lb cap T (i+1+1) w w5:=bQ.grown (by rw[d];exact vt.out) vf.out;have vh:∀W u v,Ext (·=N) W ((W.setCell ⟨N,0,tM⟩ u).setCell ⟨N,1,tM⟩ v):=λW u v=>(Ext.set1 W N 0 u).trans (Ext.set1 _ N 1 v) (λk f=> .inl f);exact⟨rfl,hM.1.ext (vh _ _ _) (by omega) (by have:=vp.out;omega),hM.2.trans (vh _ _ _) (λk f=> .inr (by omega))⟩
theorem qB {r lb cap:bh}{T:bj Tok}{i k:bh}{y:Ty}(w:World)(h:Rd r lb cap T i w)(g:xH T i y k):
  ge am 209 #[tW (tG ⟨r,0,tM⟩)] w λe w'=>e= ud (IK y)/\bQ r lb cap T k w w':=by
 cases g with
 |int t d f=>exact D8 w h d f
 |ptr t u d f j o=>exact wm w h d f j o
structure Ex where
 kind:aw
 n:aw
 nm:bm
 ln:aw
 cl:aw
def Ex.cells (e:Ex):eA cA:=#[Z U e.kind,Z U e.n,tS e.nm,tS ⟨#[]⟩,tU tM 0 0,Z U e.ln,Z U e.cl]
theorem sF (e:Ex)(w:World):ge am 277 #[ub e.cells] w λj w'=>j= ud (Z U 1)/\aE w.heap.size w w':=by
 obtain⟨N,f⟩:=zE w.heap.size;unfold Ex.cells;go_enter func277,ntmps277;go_wp2;obtain⟨W1,d⟩:=zE (w.alloc (uc #[Z U e.kind,Z U e.n,tS e.nm,tS ⟨#[]⟩,tU tM 0 0,Z U e.ln,Z U e.cl] 313));have g:=iR d f;have h:W1.heap[N]?=tG (uc #[Z U e.kind,Z U e.n,tS e.nm,tS ⟨#[]⟩,tU tM 0 0,Z U e.ln,Z U e.cl] 313 (0,0)):=by rw[<-d,<-f];exact alloc_at _ _
 obtain⟨⟨c0,c1,c2,c3,c4,c5,q⟩,_,t⟩:=eZ h;rw[d];have o:=zH g;clear d g h
 go_loop [3,4] (λn i=>n= Z U 0/\i= Z U 0) (λ_ _=>0)
 case atStart=>exact⟨rfl,rfl⟩
 case round=>
  obtain⟨rfl,rfl⟩:=hrel;go_wp2;go_ret;(try rw[f]);exact⟨rfl,o.out⟩
theorem jS {r lb cap:bh}{T:bj Tok}{i:bh}(e:Ex)(w:World)(h:Rd r lb cap T i w):
  ge am 273 #[tW (tG ⟨r,0,tM⟩),ub e.cells] w λE w'=>E= ud (ub e.cells)/\aE w.heap.size w w':=by
 obtain⟨N,d⟩:=zE w.heap.size;obtain⟨W1,f⟩:=zE ((w.alloc (uc #[Z U e.kind,Z U e.n,tS e.nm,tS ⟨#[]⟩,tU tM 0 0,Z U e.ln,Z U e.cl] 313)).alloc (uc #[Z U 0,Z U 0,tS ⟨#[]⟩,tS ⟨#[]⟩,tU tM 0 0,Z U 0,Z U 0] 313));have q:=vX f d;have g:=vY f d;have j:=zl f d;have v:W1.heap.size=N+2:=by rw[<-f];simp[d]
 have x:=h.grow (by rw[d];exact q);have y:cj (∀W,aE W1.heap.size W1 W->zS 171 #[tW (tG ⟨r,0,tM⟩)] W (ua tR)):=λW G=>bI W (x.grow G);have t:=λW=>sF e W;unfold Ex.cells at t⊢;have J:=zH t;obtain⟨⟨c0,c1,c2,c3,c4,c5,K⟩,_,vc⟩:=eZ g;have R:=zH f;have ue:=zH q;have up:=zH g;have ur:=zH j;have u:=zH v;clear h f q g j v x t;go_enter func273,ntmps273
 go_upto_region 1 with(fail)
 rw[R.out]
 go_upto_region 3 with(first
  |(go_at_call 171;refine(y.out W1 (aq _ _)).mono ?_;rintro e w2 ⟨rfl,rfl⟩)
  |(go_at_call 277;refine(J.out _).mono ?_;rintro e w2 ⟨rfl,z⟩;have o:=zH z;clear z))
 have g:=(o.out.block N (by rw[u.out];omega)).trans up.out;have j:=(o.out.block (N+1) (by rw[u.out];omega)).trans ur.out;obtain⟨⟨c0,c1,c2,c3,c4,c5,K⟩,_,vd⟩:=eZ g;obtain⟨⟨g0,g1,g2,g3,g4,g5,g6⟩,⟨f0,f1,f2,f3,f4,f5,f6⟩,vf⟩:=eZ j;have uv:=zH j;have A:cj (aE N w w2):=ue.out.trans (o.out.mono (by rw[u.out];omega));have ux:=zH (y.out w2 o.out);clear g j
 go_wp2_with (go_at_call 171;refine ux.out.mono ?_;rintro e w3 ⟨rfl,rfl⟩)
 (try simp only[dk,Exit.then]);refine er (fk (P:=am) rfl _ _ (N+1) 313 _ (0,0) _ rfl (gN uv.out) iz rfl (by kernel_rfl)) rfl ?_;(try rw[d]);exact⟨rfl,A.out.trans ((cK _ _ _ _ _ _ _ _ _).below (eJ (by omega) A.out.size) (λk hk=>by omega))⟩
end Go.Proofs.YtjomgckjhcfbgaaGreat
