/- Walks. -/
import Derived.Test.YtjomgckjhcfbgaaGreatY2
set_option maxRecDepth 100000
set_option maxHeartbeats 64000000
set_option linter.all false
namespace Go.Proofs.YtjomgckjhcfbgaaGreat
open Go.RowKit
open Go.Proofs.Tryz renaming prog→ac,underlying3→dj,underlying32→ey,underlying263→it,underlying88→ix,underlying40→m5,underlying90→ot,underlying113→ph
open _root_.List renaming getElem?_eq_getElem→am,getElem?_eq_some_iff→ap,length_append→cw,mem_append→cT,flatMap_cons→el,getElem?_append_right→et,flatMap_append→eK,drop_eq_getElem_cons→eR,map_append→fL,append_assoc→fR,getElem?_append_left→gR,drop_length→qs,length_pos_iff→rx
open Go.RowKit.Below renaming refl→aq,heap_alloc→cn,heap_setCell→dl
open _root_ renaming ByteArray→aE,List→bm,Int→bp,Nat→bx,Array→da,beq_eq_false_iff_ne→dp,Option→eA,decide_eq_true_eq→ly,False→mb,beq_iff_eq→mN,Bool→nj,beq_self_eq_true→rr
open Go.RowKit renaming Below→bh,Hid→cm,ownsRow_setCell_below→lr
open Go renaming heap_setCell_same→bk,cell_of_row→cc,Value→cd,run_storeCells_new→ct,storeCells→dr,bodyPost_ret→dv,maxLen→dT,wpQuiet_nil→eh,results_cell_row→eI,run_underlying→fN,beq_toListBytes→fY,Calls→gd,TypeId→gx,info_parts→gA,heap_alloc2_old→ia,heap_alloc2_new→lx
open _root_.Nat renaming lt_of_lt_of_le→bl,le_refl→ce,zero_le→cN,zero_add→cV,le_trans→cY,add_zero→mx,le_of_lt→pm,succ_mul→re,add_assoc→sB
open Go.Value renaming oneCell'→cj,int→eE,ownBlock→eJ,string→tM,slice→tP,pointer→tR,bool→tU,agg→tW,int→Z
open _root_.Option.some renaming inj→cD,injEq→dt
open Go.Exit renaming inBlock→db
open Go.Addr renaming add_lit→dc
open Go.Addr.mk renaming injEq→eW
open Go.Sem renaming run_bind→ft
open Go.Value.slice renaming injEq→gj
open Go.Op renaming equalIn→gE
open _root_.Option renaming map_eq_some_iff→i8,some→tB,none→tD
open Go.Instr renaming field→nw
open _root_.Bool renaming true→tE,false→tG
open Go.Obj renaming cells→ua
open Go.Ending renaming returned→ub
open Go.IntKind renaming i64→U
open Tryz
def nz:aE:=⟨#[123]⟩
def jh:aE:=⟨#[125]⟩
inductive l6 (T:bm Tok) (i:bx):qD->bx->Prop
 |ret (t z:Tok) (e:Ex) (k:bx):T[i]?=tB t->dK t ry=tE->fE T (i+1) e k->T[k]?=tB z->dK z dO=tE->l6 T i ⟨8,bI,⟨#[]⟩,[e]⟩ (k+1)
 |free (t u x v z:Tok):T[i]?=tB t->dK t Cj=tE->T[i+1]?=tB u->dK u fD=tE->T[i+2]?=tB x->x.kind=1->T[i+3]?=tB v->dK v oq=tE->T[i+4]?=tB z->dK z dO=tE->l6 T i ⟨9,bI,x.text,[]⟩ (i+5)
 |decl (t u x v z:Tok) (e:Ex) (k:bx):T[i]?=tB t->t.kind=1->T[i+1]?=tB u->dK u jZ=tE->u.kind=4->T[i+2]?=tB x->x.kind=1->T[i+3]?=tB v->dK v Hl=tE->fE T (i+4) e k->T[k]?=tB z->dK z dO=tE->
   l6 T i ⟨1,(tE,t.text),x.text,[e]⟩ (k+1)
theorem xE {r lb cap:bx}{T:bm Tok}{i k:bx}{sh:qD}(d:bp)(w:World)(h:Rd r lb cap T i w)(hs:l6 T i sh k):
  gd ac 243 #[tR (tB ⟨r,0,tD⟩),Z U d] w (iO r lb cap T w sh k):=by
 cases hs with
 |ret t z e k f q A D G=>exact A9 d w h f q A D G
 |free t u x v z f q A D G J h7 h8 h9 uc=>exact yZ d w h f q A D G J h7 h8 h9 uc
 |decl t u x v z e k f q A D G J h7 h8 h9 uc ud ue=>exact za d w h f q A D G J h7 h8 h9 uc ud ue
theorem l6.first {T:bm Tok}{i k:bx}{A:qD}(h:l6 T i A k):∃t,T[i]?=tB t/\dK t jh=tG/\i<k:=by
 cases h with
 |ret t z e k d f q D G=>exact⟨t,d,j3 f (by decide),by have:=q.first;obtain⟨_,_,_,h⟩:=this;omega⟩
 |free t u x v z d f=>exact⟨t,d,j3 f (by decide),by omega⟩
 |decl t u x v z e k d f q D G h6 h7 h8 h9 J=>exact⟨t,d,mM f,by have:=J.first;obtain⟨_,_,_,h⟩:=this;omega⟩
inductive iP (T:bm Tok):bx->bm qD->bx->Prop
 |nil (i:bx):iP T i [] i
 |cons (i j k:bx) (sh:qD) (l:bm qD):l6 T i sh j->iP T j l k->iP T i (sh::l) k
theorem own_ne {w:World}{base:bx}{e t:gx}{size n k:bx}{v:cd}{xs:bm cd}{u:da cd}{A:bx×bx}(h:w.ownsRow base e size v n xs)(D:w.heap[k]?=tB (ua u t A))(G:t≠e):¬v.ownBlock=tB k:=by
 intro d;rcases h.2 with⟨f,_⟩|⟨g,cap,cur,f,_,q,_⟩
 ·rw[f] at d;cases d
 ·rw[f] at d
  have J:g=k:=by simpa[eJ] using d
  subst J;rw[D] at q;simp only[dt,Obj.cells.injEq] at q;exact G q.2.1
theorem Sm.inn.own {B base n:bx}{w w':World}{s:Sm}{v:cd}{xs:bm cd}(h:s.inn B w)(f:w.ownsRow base 282 9 v n xs)(q:Ext (λk=>v.ownBlock=tB k) w w'):s.inn B w':=by
 rcases h with h|⟨g,cap,u,A,d⟩
 ·exact .inl h
 ·exact .inr ⟨g,cap,u,A,q.heap d (own_ne f d (by decide))⟩
def rT (r:bx)(T:bm Tok)(w:World):bx:=match w.cell? ⟨r,1,tD⟩ with
 |some (.int _ j)=>T.length-j.toNat
 |_=>0
theorem gp {r lb cap:bx}{T:bm Tok}{j:bx}{w:World}(h:Rd r lb cap T j w):rT r T w=T.length-j:=by
 unfold rT;rw[h.cells.2.1];simp
theorem iP.le {T:bm Tok}{i k:bx}{l:bm qD}(h:iP T i l k):i<=k:=by
 induction h with
 |nil=>exact ce _
 |cons i j k f l d _ ih=>obtain⟨_,_,_,h⟩:=d.first;omega
def Hm (s:Sm):bm cd:=s.cells.toList
theorem Fs (s:Sm)(d:eA Addr)(f q:bx)(h:s.E= tP d f q):∀u∈s.cells.toList,u.oneCell'=tE:=by
 unfold Sm.cells;rw[h];simp[cj]
theorem CR:(ac.info? 282).map (λi=>(i.zero,i.size,i.bytes))=tB (tB (tW #[Z U 0,tU tG,tM ⟨#[]⟩,tM ⟨#[]⟩,tP tD 0 0,tP tD 0 0,tP tD 0 0,Z U 0,Z U 0]),9,136):=by kernel_rfl
def zb (r lb cap:bx)(T:bm Tok)(w:World)(d:bm qD)(k:bx)(e:Ending)(w':World):Prop:=
 ∃(v:cd) (ss:bm Sm),e= ub v/\ss.map Sm.shp=d/\w'.ownsRow w.heap.size 282 9 v ss.length (ss.flatMap Hm)/\(∀s∈ss,s.inn w.heap.size w')/\bJ r lb cap T k w w'
def GJ (r lb cap:bx)(T:bm Tok)(w:World)(d:bm qD)(k j:bx)(v:cd)(wr:World):Prop:=
 ∃(ss:bm Sm) (l:bm qD),ss.map Sm.shp++l=d/\iP T j l k/\wr.ownsRow w.heap.size 282 9 v ss.length (ss.flatMap Hm)/\(∀s∈ss,s.inn w.heap.size wr)/\bJ r lb cap T j w wr/\ss.length<=j
theorem uU {r lb cap:bx}{T:bm Tok}{i k:bx}{t z:Tok}{ux:bm qD}(d:bp)(zr:0<=d)(hd:d<=100)(w:World)(h:Rd r lb cap T i w)(ht:T[i]?=tB t)(ho:dK t nz=tE)(u:iP T (i+1) ux k)(hz:T[k]?=tB z)(hk:dK z jh=tE):
  gd ac 210 #[tR (tB ⟨r,0,tD⟩),Z U d] w (zb r lb cap T w ux (k+1)):=by
 have vc:=zH (bg nz w h ht);rw[ho] at vc;unfold nz at vc;have xp:cm (∀W,bh w.heap.size w W->zS 242 #[tR (tB ⟨r,0,tD⟩),Z U (d+1)] W (tU tE)):=λW f=>uM (d+1) W (h.grow f) (by omega);have vr:cm (∀(j:bx)(t:Tok) W,T[j]?=tB t->Rd r lb cap T j W->zP 172 #[tR (tB ⟨r,0,tD⟩),tM ⟨#[125]⟩] W (tU (dK t jh))):=λj t W ht f=>bg jh W f ht;have xr:cm (∀(j:bx) W,Rd r lb cap T j W->zS 171 #[tR (tB ⟨r,0,tD⟩)] W (tU tG)):=λj W f=>bB W f;have xt:cm (∀(j k:bx)(sh:qD) W,Rd r lb cap T j W->l6 T j sh k->gd ac 243 #[tR (tB ⟨r,0,tD⟩),Z U (d+1)] W (iO r lb cap T W sh k)):=λj k sh W f u=>xE (d+1) W f u;have xF:cm (∀W,Rd r lb cap T k W->gd ac 207 #[tR (tB ⟨r,0,tD⟩),tM ⟨#[125]⟩] W λe w'=>e= ub (.tuple #[])/\bJ r lb cap T (k+1) W w'):=λW f=>aY jh W f hz hk;have zv:i<T.length:=(ap.1 ht).1;have hT:=h.short;have An:=h.rlt;have As:=h.lt;have H:=zH h;have HS:=zH u;have HZ:=zH hz;have HK:=zH hk;obtain⟨i0,xT,ya,yb,yd⟩:=gA CR;clear h ht ho u hz hk;go_enter func210,ntmps210
 go_upto_region 6 with(first
  |(go_at_call 172;refine vc.out.mono ?_;rintro e w2 ⟨rfl,vu⟩;have vd:=zH vu;clear vu)
  |(go_at_call 242;refine(xp.out w2 vd.out).mono ?_;rintro e w3 ⟨rfl,rfl⟩))
 have h2:=H.out.grow vd.out;obtain⟨c0,c1,c3,f1,hr⟩:=h2.cells;have vx:bJ r lb cap T (i+1) w (w2.setCell ⟨r,1,tD⟩ (Z U ((i:bp)+1))):=⟨h2.step,(Ext.of_below_size (M:=(·=r)) vd.out).trans (Ext.set1 w2 r 1 _) (λk hk=> .inl hk)⟩
 have vy:=zH vx;clear h2 vx
 go_upto_region 7 with(fail)
 obtain⟨W0,vf⟩:=zE (w2.setCell ⟨r,1,tD⟩ (Z U ((i:bp)+1)));rw[vf];rw[vf] at vy;clear vf c0 c1 c3 f1 hr
 go_loopw [5] (λv wr=>∃j:bx,GJ r lb cap T w ux k j v wr) (λ_ wr=>rT r T wr)
 case atStart=>exact⟨i+1,[],ux,rfl,HS.out,World.ownsRow_nil _ _ _ _,by simp,vy.out,by simp⟩
 case round=>
  obtain⟨j,ss,l,hl,we,vh,vi,G,At⟩:=hrel;have ye:=zH (gp G.1);have Ax:j<=1000000:=by
   have:=we.le;have:=(ap.1 HZ.out).1;omega
  have HL:=zH hl;have vj:=zH vh;have wg:=zH vi;have HM:=zH G;cases we with
  |nil=>
   have ur:=zH (vr.out k z wr HZ.out G.1);rw[HK.out] at ur;clear hl vh vi G
   go_upto_region 9 with(go_at_call 172;refine ur.out.mono ?_;rintro e J ⟨rfl,uv⟩;have A:=zH uv;clear uv)
   have wi:=HM.out.grow A.out;have uc:=zH wi;clear wi
   go_wp2_with (go_at_call 207;refine(xF.out J uc.out.1).mono ?_;rintro e w5 ⟨rfl,D⟩;have ud:=zH D;clear D)
   go_ret;refine⟨_,ss,rfl,by rw[<-HL.out];simp, ?_, ?_,uc.out.trans ud.out⟩
   ·refine af (ownsRow_below vj.out A.out) ud.out.2 (λq hq=> ?_)
    have:=(au vj.out hq).1;omega
   ·intro s u
    exact((wg.out s u).ext (Ext.of_below_size (M:=λ_=>mb) A.out) (λ_ _ _ h=>h)).ext ud.out.2 (λq h1 _=>by omega)
  |cons _ j2 _ sh l2 vm vp=>
   obtain⟨t1,wj,wk,AD⟩:=vm.first
   have ur:=zH (vr.out j t1 wr wj G.1);rw[wk] at ur;have yi:=zH (xr.out j);have yk:=zH (λW f=>xt.out j j2 sh W f vm);have yp:=zH vp;have AE:j2<=T.length:=cY vp.le (pm (ap.1 HZ.out).1);clear hl vh vi G vm vp wj wk
   go_upto_region 8 with(first
    |(go_at_call 172;refine ur.out.mono ?_;rintro e J ⟨rfl,uv⟩;have A:=zH uv;clear uv)
    |(go_at_call 171;refine(yi.out J (HM.out.1.grow A.out)).mono ?_;rintro e w5 ⟨rfl,rfl⟩))
   have wl:=zH (ownsRow_below vj.out A.out);have yq:cm (∀s∈ss,s.inn w.heap.size J):=λs u=>(wg.out s u).ext (Ext.of_below_size (M:=λ_=>mb) A.out) (λ_ _ _ h=>h);have uc:=zH (HM.out.grow A.out);have ws:w.heap.size<=J.heap.size:=uc.out.2.size;have AF:ss.length<=1000000:=by omega
   go_wp2_with (first
    |(go_at_call 243;refine(yk.out J uc.out.1).mono ?_;rintro e w5 ⟨s,rfl,wx,vq,D⟩;obtain⟨yr,en,ec,hE⟩:=vq.slice;have xf:=zH (Fs s yr en ec hE);have ue:=zH (af wl.out D.2 (λq hq=>by have:=(au wl.out hq).1;omega));have yv:cm (∀s∈ss,s.inn w.heap.size w5):=(λs u=>(yq.out s u).ext D.2 (λq h1 _=>by omega));have yy:=zH (vq.mono ws);have ud:=zH (uc.out.trans D);have yW:=zH wx;have zc:w.heap.size<=w5.heap.size:=cY ws D.2.size;clear wx vq D hE;unfold Sm.cells at xf⊢)
    |(at_builtin;refine bW rfl (.tmp 34) (.tmp 39) 231 rfl w.heap.size 282 i0 _ 9 136 underlying231 xT ya yb yd rfl (by decide) _ ss.length (ss.flatMap Hm) rfl ue.out w5.heap.size #[Z U s.kind,tU s.ty.1,tM s.ty.2,tM s.nm,s.E,tP tD 0 0,tP tD 0 0,Z U s.ln,Z U s.cl] rfl rfl rfl xf.out (by unfold dT;omega) (by omega) zc ?_;intro v7 w7 xj va zd;have zj:=zH xj;have xl:=zH va;have xo:cm (bJ r lb cap T j2 w w7):=(⟨ud.out.1.ext va (λh=>by have:=(au ue.out h).1;omega) (λh=>by have:=(au ue.out h).1;omega),ud.out.2.trans va (λq hq=> .inr (au ue.out hq).1)⟩:bJ r lb cap T j2 w w7);clear xj va zd))
   go_roundw
   case rel=>
    refine⟨j2,ss++[s],l2, ?_,yp.out, ?_, ?_,xo.out,by rw[cw];simp;omega⟩
    ·rw[fL,fR,<-HL.out,<-yW.out];rfl
    ·rw[eK,cw]
     exact zj.out
    ·intro s' zp
     rcases cT.1 zp with h|h
     ·exact(yv.out s' h).own ue.out xl.out
     ·obtain rfl:s'=s:=by simpa using h
      exact yy.out.own ue.out xl.out
   case measure=>
    rw[gp xo.out.1,ye.out];omega
theorem Ed (a:bp)(s:aE)(n d f:bp)(W:World):(nw 263 (tW #[Z U a,tM s,Z U n,Z U d,Z U f]) 3).run ac W= .ok (tW #[Z U d,Z U f]) W:=by
 have h:=it;have q:(ac.info? 40).map (·.size)=tB 2:=by kernel_rfl
 have u:=m5;unfold nw;rw[ft,fN h W];obtain⟨i,v,A⟩:=i8.1 q;simp[asAgg,part,go_sem,isAgg,sizeOf,typeInfo,v,A,ft,fN u W]
theorem rU (a:bp)(s:aE)(n d f:bp)(W:World):(nw 263 (tW #[Z U a,tM s,Z U n,Z U d,Z U f]) 0).run ac W= .ok (Z U a) W:=by
 have h:=it;have q:=dj;unfold nw;rw[ft,fN h W];simp[asAgg,part,go_sem,isAgg,ft,fN q W]
def jI:aE:=⟨#[115,116,114,117,99,116]⟩
inductive iB (T:bm Tok):bx->bm (aE×Ty)->bx->Prop
 |nil (i:bx):iB T i [] i
 |cons (i j k:bx) (y:Ty) (x z:Tok) (l:bm (aE×Ty)):xz T i y j->T[j]?=tB x->x.kind=1->T[j+1]?=tB z->dK z dO=tE->iB T (j+2) l k->iB T i ((x.text,y)::l) k
theorem xz.first {T:bm Tok}{i k:bx}{y:Ty}(h:xz T i y k):∃t,T[i]?=tB t/\dK t jh=tG/\i<k:=by
 cases h with
 |int t d f=>exact⟨t,d,j3 f (by decide),by omega⟩
 |ptr t u d f=>exact⟨t,d,mM f,by omega⟩
theorem iB.le {T:bm Tok}{i k:bx}{l:bm (aE×Ty)}(h:iB T i l k):i<=k:=by
 induction h with
 |nil=>exact ce _
 |cons i j k y x z l d _ _ _ _ _ ih=>obtain⟨_,_,_,h⟩:=d.first;omega
def Fd.shp (f:Fd):aE×Ty:=(f.nm,f.ty)
def uG (f:Fd):bm cd:=f.cells.toList
theorem Cm:(ac.info? 92).map (λi=>(i.zero,i.size,i.bytes))=tB (tB (tW #[tM ⟨#[]⟩,tU tG,tM ⟨#[]⟩,Z U 0,Z U 0]),5,56):=by kernel_rfl
def Cn (r lb cap:bx)(T:bm Tok)(w:World)(nm:aE)(l:bm (aE×Ty))(k:bx)(e:Ending)(w':World):Prop:=
 ∃(f:eA Addr) (c:bx) (d:bm Fd) (h q:bp),e= ub (tW #[tM nm,tP f d.length c,Z U h,Z U q])/\d.map Fd.shp=l/\w'.ownsRow w.heap.size 92 5 (tP f d.length c) d.length (d.flatMap uG)/\bJ r lb cap T k w w'
def IQ (r lb cap:bx)(T:bm Tok)(w:World)(nm:aE)(l:bm (aE×Ty))(q u:bp)(k B j:bx)(wr:World):Prop:=
 ∃(f:eA Addr) (c:bx) (d:bm Fd) (h:bm (aE×Ty)),d.map Fd.shp++h=l/\iB T j h k/\wr.heap[B]?=tB (ua #[tM nm,tP f d.length c,Z U q,Z U u] 90 (0,0))/\
  wr.ownsRow (B+1) 92 5 (tP f d.length c) d.length (d.flatMap uG)/\bJ r lb cap T j w wr/\d.length<=j/\wr.heap[w.heap.size]?=tB (ua #[tM ⟨#[]⟩,tP tD 0 0,Z U 0,Z U 0] 90 (0,0))
theorem ou {r lb cap:bx}{T:bm Tok}{i k:bx}{t u x z z2:Tok}{l:bm (aE×Ty)}(w:World)(h:Rd r lb cap T i w)(ht:T[i]?=tB t)(zr:dK t jI=tE)(hx:T[i+1]?=tB x)(zv:x.kind=1)(hu:T[i+2]?=tB u)(An:dK u nz=tE)
  (hl:iB T (i+3) l k)(hz:T[k]?=tB z)(v:dK z jh=tE)(As:T[k+1]?=tB z2)(At:dK z2 dO=tE):
  gd ac 173 #[tR (tB ⟨r,0,tD⟩)] w (Cn r lb cap T w x.text l (k+2)):=by
 obtain⟨N,A⟩:=zE w.heap.size;obtain⟨W1,uv⟩:=zE (w.alloc (ua #[tM ⟨#[]⟩,tP tD 0 0,Z U 0,Z U 0] 90));have wk:=iV uv A;have Ax:W1.heap.size=N+1:=by rw[<-uv];simp[A]
 have ux:W1.heap[N]?=tB (ua #[tM ⟨#[]⟩,tP tD 0 0,Z U 0,Z U 0] 90 (0,0)):=by rw[<-uv,<-A];exact alloc_at _ _
 have h1:=h.grow (by rw[A];exact wk);have AD:=zH (bE W1 h1 ht);have AE:cm (∀W,Rd r lb cap T i W->gd ac 207 #[tR (tB ⟨r,0,tD⟩),tM jI] W λe w'=>e= ub (.tuple #[])/\bJ r lb cap T (i+1) W w'):=λW f=>aY jI W f ht zr;have C3:cm (∀W,Rd r lb cap T (i+1) W->gd ac 208 #[tR (tB ⟨r,0,tD⟩)] W λe w'=>e= ub (.tuple #[tM x.text,tW #[Z U x.ln,Z U x.cl]])/\bJ r lb cap T (i+2) W w'):=λW f=>dZ W f hx zv;have AF:cm (∀W,Rd r lb cap T (i+2) W->gd ac 207 #[tR (tB ⟨r,0,tD⟩),tM nz] W λe w'=>e= ub (.tuple #[])/\bJ r lb cap T (i+3) W w'):=λW f=>aY nz W f hu An;have AG:cm (∀W,Rd r lb cap T k W->gd ac 207 #[tR (tB ⟨r,0,tD⟩),tM jh] W λe w'=>e= ub (.tuple #[])/\bJ r lb cap T (k+1) W w'):=λW f=>aY jh W f hz v;have AH:cm (∀(j:bx)(z:Tok) W,T[j]?=tB z->dK z dO=tE->Rd r lb cap T j W->gd ac 207 #[tR (tB ⟨r,0,tD⟩),tM ⟨#[59]⟩] W λe w'=>e= ub (.tuple #[])/\bJ r lb cap T (j+1) W w'):=λj z W hz v f=>aY dO W f hz v;have C4:=zH (λW=>AH.out (k+1) z2 W As At);have AI:cm (∀(j:bx)(t:Tok) W,T[j]?=tB t->Rd r lb cap T j W->zP 172 #[tR (tB ⟨r,0,tD⟩),tM ⟨#[125]⟩] W (tU (dK t jh))):=λj t W ht f=>bg jh W f ht;have C5:cm (∀(j:bx) W,Rd r lb cap T j W->zS 171 #[tR (tB ⟨r,0,tD⟩)] W (tU tG)):=λj W f=>bB W f;have C6:cm (∀(j k:bx)(y:Ty) W,xz T j y k->Rd r lb cap T j W->gd ac 209 #[tR (tB ⟨r,0,tD⟩)] W λe w'=>e= ub (tW #[tU y.1,tM y.2])/\bJ r lb cap T k W w'):=λj k y W hy f=>qB W f hy;have C7:cm (∀(j:bx)(x:Tok) W,T[j]?=tB x->x.kind=1->Rd r lb cap T j W->gd ac 208 #[tR (tB ⟨r,0,tD⟩)] W λe w'=>e= ub (.tuple #[tM x.text,tW #[Z U x.ln,Z U x.cl]])/\bJ r lb cap T (j+1) W w'):=λj x W hx v f=>dZ W f hx v;unfold jI at AE;unfold nz at AF;unfold jh at AG;simp only[Tok.cells] at AD;have hst:∀(w:World)(c:da cd),c.size=4->(dr ⟨w.heap.size,0,tD⟩ [tM ⟨#[]⟩,tP tD 0 0,Z U t.ln,Z U t.cl] 0).run ac (w.alloc (ua c 90))= .ok () (w.alloc (ua #[tM ⟨#[]⟩,tP tD 0 0,Z U t.ln,Z U t.cl] 90)):=λw c hc=>
  ct (P:=ac) w 90 c #[tM ⟨#[]⟩,tP tD 0 0,Z U t.ln,Z U t.cl] (by show _=tB 4;kernel_rfl) hc (by simp[cj])
 have Dd:=zH hst;have GE:i<T.length:=(ap.1 ht).1;have hT:=h.short;have GF:r<N:=by rw[<-A];exact h.rlt
 have vi:cm (lb<N):=by unfold cm;rw[<-A];exact h.lt
 have Dg:=zH uv;have Do:=zH wk;have AK:=zH Ax;have Ds:=zH ux;have H1:=zH h1;have DA:=zH hl;have HZ:=zH hz;have HK:=zH v;have HN:=zH A;obtain⟨i0,DB,DE,DG,DH⟩:=gA Cm;clear h ht zr hx zv hu An hl hz v As At uv wk Ax ux h1 hst;have DM:=λW=>Ed t.kind t.text t.n t.ln t.cl W;go_enter func173,ntmps173
 go_upto_region 2 with(go_at_call 170;rw[Dg.out];refine AD.out.mono ?_;rintro e w2 ⟨rfl,AM⟩;have DO:=Dd.out w2;have AN:=zH AM;clear AM)
 clear DO DM;obtain⟨B,hB⟩:=zE w2.heap.size;obtain⟨W3,vj⟩:=zE (w2.alloc (ua #[tM ⟨#[]⟩,tP tD 0 0,Z U t.ln,Z U t.cl] 90));rw[hB,vj];have vm:=zD vj AN;have GO:N+1<=B:=by rw[<-hB,<-AK.out];exact AN.out.size
 have ue:W3.heap[B]?=tB (ua #[tM ⟨#[]⟩,tP tD 0 0,Z U t.ln,Z U t.cl] 90 (0,0)):=by rw[<-vj,<-hB];exact alloc_at _ _
 have AS:=(vm.block N (by have:=AK.out;omega)).trans Ds.out;have AT:bJ r lb cap T i w W3:=⟨H1.out.grow vm,(Ext.of_below_size (M:=(·=r)) (show bh w.heap.size w W1 by rw[A];exact Do.out)).trans (Ext.of_below_size (M:=(·=r)) vm) (λk v=> .inl v)⟩
 have AW:=zH AT;have ur:=zH ue;have DP:=zH AS;clear hB vj vm ue AS AT
 go_upto_region 3 with(go_at_call 207;refine(AE.out W3 AW.out.1).mono ?_;rintro e w4 ⟨rfl,A0⟩;have wl:=zH A0;clear A0)
 go_upto_region 4 with(go_at_call 208;refine(C3.out w4 wl.out.1).mono ?_;rintro e w5 ⟨rfl,ws⟩;have A2:=zH (wl.out.trans ws);have wx:=(wl.out.trans ws).2.heap ur.out (by omega);have DQ:=zH wx;obtain⟨⟨a0,a1,a2,a3⟩,⟨b0,b1,b2,b3⟩,A4⟩:=mY wx;clear ws wx)
 obtain⟨W6,vp⟩:=zE (w5.setCell ⟨B,0,tD⟩ (tM x.text));rw[vp];have vq:Ext (·=B) w5 W6:=by rw[<-vp];exact ah (Ext.refl _ _) _
 have A5:W6.heap[B]?=tB (ua #[tM x.text,tP tD 0 0,Z U t.ln,Z U t.cl] 90 (0,0)):=by rw[<-vp];exact bk _ B 0 _ _ _ DQ.out
 have A6:=vq.heap (A2.out.2.heap DP.out (by omega)) (show¬N=B by omega);have xf:=AW.out.trans A2.out;have Bk:bJ r lb cap T (i+2) w W6:=⟨xf.1.ext vq (by omega) (by have:=vi.out;omega),xf.2.trans vq (λk v=> .inr (by omega))⟩
 have Bm:=zH Bk;have DS:=zH A5;have D0:=zH A6;clear vp vq A5 A6 xf Bk a0 a1 a2 a3 b0 b1 b2 b3 A4
 go_upto_region 5 with(go_at_call 207;refine(AF.out W6 Bm.out.1).mono ?_;rintro e w7 ⟨rfl,By⟩;have xj:=zH By;clear By)
 have hI:IQ r lb cap T w x.text l t.ln t.cl k B (i+3) w7:=⟨tD,0,[],l,rfl,DA.out,xj.out.2.heap DS.out (by omega),World.ownsRow_nil _ _ _ _,Bm.out.trans xj.out,by simp,by rw[A];exact xj.out.2.heap D0.out (by omega)⟩
 have HI:=zH hI;clear hI
 go_loopw [4] (λ_ wr=>∃j:bx,IQ r lb cap T w x.text l t.ln t.cl k B j wr) (λ_ wr=>rT r T wr)
 case atStart=>exact⟨i+3,HI.out⟩
 case round=>
  obtain⟨j,ao,c,fs,l2,hl,BE,ue,xl,hm,GP,vr⟩:=hrel;rw[A] at vr;have D1:=zH (gp hm.1);have GS:j<=1000000:=by
   have:=BE.le;have:=(ap.1 HZ.out).1;omega
  have HL:=zH hl;have vu:=zH xl;have HM:=zH hm;have ur:=zH ue;have vx:=zH vr;cases BE with
  |nil=>
   have va:=zH (AI.out k z wr HZ.out hm.1);rw[HK.out] at va;clear hl xl hm ue vr
   go_upto_region 10 with(go_at_call 172;refine va.out.mono ?_;rintro e w8 ⟨rfl,vc⟩;have D:=zH vc;clear vc)
   have BT:=HM.out.grow D.out;have vd:=zH BT;clear BT
   go_upto_region 11 with(go_at_call 207;refine(AG.out w8 vd.out.1).mono ?_;rintro e w9 ⟨rfl,vf⟩;have uc:=zH vf;clear vf)
   go_wp2_with (go_at_call 207;refine(C4.out w9 uc.out.1).mono ?_;rintro e GT ⟨rfl,ud⟩;have vh:=zH (uc.out.trans ud);have ux:=(uc.out.trans ud).2.heap ((D.out.block B (ae ur.out)).trans ur.out) (by omega);have xo:=(uc.out.trans ud).2.heap ((D.out.block N (ae vx.out)).trans vx.out) (by omega);have D2:=zH xo;obtain⟨⟨a0,a1,a2,a3⟩,⟨b0,b1,b2,b3⟩,A4⟩:=mY ux;obtain⟨⟨p0,p1,p2,p3⟩,⟨q0,q1,q2,q3⟩,GW⟩:=mY xo;clear ud ux xo)
   (try simp only[db,Exit.then]);refine dv (eI (P:=ac) rfl _ _ N 90 _ (0,0) _ rfl (jd D2.out) ot rfl (by kernel_rfl)) rfl ?_;have hM:=vd.out.trans vh.out;have xp:∀W u0 u1 u2 u3,Ext (·=N) W ((((W.setCell ⟨N,0,tD⟩ u0).setCell ⟨N,1,tD⟩ u1).setCell ⟨N,2,tD⟩ u2).setCell ⟨N,3,tD⟩ u3):=λW u0 u1 u2 u3=>ah (ah (ah (ah (Ext.refl _ _) _) _) _) _;refine⟨ao,c,fs,t.ln,t.cl,rfl,by rw[<-HL.out];simp, ?_,hM.1.ext (xp _ _ _ _ _) (by omega) (by have:=vi.out;omega),hM.2.trans (xp _ _ _ _ _) (λk v=> .inr (by omega))⟩;rw[A];refine aU (af (af (ownsRow_below vu.out D.out) vh.out.2 (λq G=> ?_)) (xp _ _ _ _ _) (λq G=> ?_)) (show N<=B+1 by omega)
   ·have:=(au vu.out G).1;omega
   ·have:=(au vu.out G).1;omega
  |cons _ J _ y d z3 l3 xr BY B4 B5 B6 xt=>
   obtain⟨t1,B8,B9,G0⟩:=xr.first
   have va:=zH (AI.out j t1 wr B8 hm.1);rw[B9] at va;have D3:=zH (C5.out j);have D4:=zH (λW=>C6.out j J y W xr);have Ek:=zH (λW=>C7.out J d W BY B4);have EV:=zH (λW=>AH.out (J+1) z3 W B5 B6);have E0:=zH xt;have G1:J+2<=T.length:=cY xt.le (pm (ap.1 HZ.out).1);clear hl xl hm ue vr xr BY B4 B5 B6 xt B8 B9
   go_upto_region 6 with(first
    |(go_at_call 172;refine va.out.mono ?_;rintro e w8 ⟨rfl,vc⟩;have D:=zH vc;clear vc)
    |(go_at_call 171;refine(D3.out w8 (HM.out.1.grow D.out)).mono ?_;rintro e w9 ⟨rfl,rfl⟩))
   have vd:=zH (HM.out.grow D.out);have Cd:∀(w:World)(c:da cd),c.size=5->(dr ⟨w.heap.size,0,tD⟩ [tM ⟨#[]⟩,tU y.1,tM y.2,Z U 0,Z U 0] 0).run ac (w.alloc (ua c 92))= .ok () (w.alloc (ua #[tM ⟨#[]⟩,tU y.1,tM y.2,Z U 0,Z U 0] 92)):=λw c hc=>
    ct (P:=ac) w 92 c #[tM ⟨#[]⟩,tU y.1,tM y.2,Z U 0,Z U 0] (by show _=tB 5;kernel_rfl) hc (by simp[cj])
   have E3:=zH Cd;clear Cd
   go_upto_region 7 with(go_at_call 209;refine(D4.out w8 vd.out.1).mono ?_;rintro e w9 ⟨rfl,vf⟩;have uc:=zH vf;have E4:=E3.out w9;clear vf)
   clear E4;obtain⟨F,hF⟩:=zE w9.heap.size;obtain⟨xF,vy⟩:=zE (w9.alloc (ua #[tM ⟨#[]⟩,tU y.1,tM y.2,Z U 0,Z U 0] 92));rw[hF,vy];have Cl:=iq vy;have Cp:xF.heap[F]?=tB (ua #[tM ⟨#[]⟩,tU y.1,tM y.2,Z U 0,Z U 0] 92 (0,0)):=by rw[<-vy,<-hF];exact alloc_at _ _
   have ud:bJ r lb cap T J w8 xF:=uc.out.grow Cl;have xT:=(D.out.block B (ae ur.out)).trans ur.out;have CA:=(D.out.block N (ae vx.out)).trans vx.out;have CC:=ownsRow_below vu.out D.out;have G2:w8.heap.size<=F:=by rw[<-hF];exact uc.out.2.size
   have G3:B<w8.heap.size:=ae xT;have vh:=zH ud;have E6:=zH Cp;have E7:=zH xT;have Fc:=zH CA;have CD:=zH CC;clear hF vy Cl Cp ud xT CA CC
   go_upto_region 8 with(go_at_call 208;refine(Ek.out xF vh.out.1).mono ?_;rintro e ya ⟨rfl,yb⟩;have CH:=zH (vh.out.trans yb);have yd:=yb.2.heap E6.out (by omega);have Fi:=zH yd;obtain⟨⟨a0,a1,a2,a3,a4⟩,⟨b0,b1,b2,b3,b4⟩,Fk⟩:=fF yd;clear yb yd)
   obtain⟨we,wg⟩:=zE (((ya.setCell ⟨F,0,tD⟩ (tM d.text)).setCell ⟨F,3,tD⟩ (Z U d.ln)).setCell ⟨F,4,tD⟩ (Z U d.cl));rw[wg];have ye:Ext (·=F) ya we:=by rw[<-wg];exact ah (ah (ah (Ext.refl _ _) _) _) _
   have CM:we.heap[F]?=tB (ua #[tM d.text,tU y.1,tM y.2,Z U d.ln,Z U d.cl] 92 (0,0)):=by
    rw[<-wg];have h1:_=tB (Obj.cells #[tM d.text,tU y.1,tM y.2,Z U 0,Z U 0] 92 (0,0)):=bk ya F 0 _ _ (tM d.text) Fi.out;have h2:_=tB (Obj.cells #[tM d.text,tU y.1,tM y.2,Z U d.ln,Z U 0] 92 (0,0)):=bk _ F 3 _ _ (Z U d.ln) h1;exact bk _ F 4 _ _ (Z U d.cl) h2
   have CN:bJ r lb cap T (J+1) w8 we:=⟨CH.out.1.ext ye (by omega) (by have:=vi.out;omega),CH.out.2.trans ye (λk v=> .inr (by omega))⟩
   have CT:=zH CN;have Fl:=zH CM;clear wg ye CM CN a0 a1 a2 a3 a4 b0 b1 b2 b3 b4 Fk
   go_upto_region 9 with(go_at_call 207;refine(EV.out we CT.out.1).mono ?_;rintro e yi ⟨rfl,yk⟩;have wi:=zH (CT.out.trans yk);have Fm:=zH (yk.2.heap Fl.out (by omega));clear yk)
   have yp:=wi.out.2.heap E7.out (show¬B=r by omega);have Fo:=zH yp;have Fr:=zH (wi.out.2.heap Fc.out (show¬N=r by omega));have yq:=zH (af CD.out wi.out.2 (λq G=>by have:=(au CD.out G).1;omega));obtain⟨⟨c0,c1,c2,c3⟩,⟨d0,d1,d2,d3⟩,Ft⟩:=mY yp;obtain⟨⟨a0,a1,a2,a3,a4⟩,⟨b0,b1,b2,b3,b4⟩,G4⟩:=fF Fm.out;have FA:B+1<=yi.heap.size:=Ft;have Hb:fs.length<=1000000:=by omega
   clear yp
   go_wp2_with (at_builtin;refine bW rfl (.tmp 40) (.tmp 42) 88 rfl (B+1) 92 i0 _ 5 56 ix DB DE DG DH rfl (by decide) _ fs.length (fs.flatMap uG) rfl yq.out yi.heap.size #[tM d.text,tU y.1,tM y.2,Z U d.ln,Z U d.cl] rfl rfl rfl (by simp[cj]) (by unfold dT;omega) (by omega) FA ?_;intro Hc yr yv yy FF;obtain⟨yW,zc,FG⟩:=ai yv;subst FG;have F0:=zH yv;have F2:=zH yy;have zd:=yy.heap Fo.out (λh=>by have:=(au yq.out h).1;omega);have Ge:=zH zd;obtain⟨⟨c0,c1,c2,c3⟩,⟨d0,d1,d2,d3⟩,Hh⟩:=mY zd;clear yv yy FF zd)
   have wj:Ext (λq=>B<=q) yi (yr.setCell ⟨B,1,tD⟩ (tP yW (fs.length+1) zc)):=(F2.out.mono (λq G=>by have:=(au yq.out G).1;omega)).trans (Ext.set1 yr B 1 _) (λq G=> .inl (by omega));have zj:=vd.out.trans wi.out;have zp:bJ r lb cap T (J+1+1) w (yr.setCell ⟨B,1,tD⟩ (tP yW (fs.length+1) zc)):=⟨zj.1.ext wj (by omega) (by have:=vi.out;omega),zj.2.trans wj (λq G=> .inr (by omega))⟩
   have Gk:=zH zp;have GB:=zH (gp zp.1);have GC:=zH wj;clear wj zj zp;go_roundw
   case rel=>
    refine⟨J+2,yW,zc,fs++[⟨d.text,y.1,y.2,d.ln,d.cl⟩],l3, ?_,E0.out, ?_, ?_,Gk.out,by rw[cw];simp;omega, ?_⟩
    ·rw[fL,fR,<-HL.out];rfl
    ·rw[cw]
     exact bk _ B 1 _ _ _ Ge.out
    ·rw[eK,cw]
     exact lr F0.out (by show B<B+1;omega) _
    ·rw[HN.out];exact GC.out.heap Fr.out (by omega)
   case measure=>
    rw[GB.out,D1.out];omega
theorem Sm.inn.other {f q:bx}{w w':World}{s:Sm}{u:da cd}{t:gx}{v:bx×bx}(h:s.inn f w)(A:w.heap[q]?=tB (ua u t v))(D:t≠313)(G:Ext (·=q) w w'):s.inn f w':=by
 rcases h with h|⟨g,cap,J,h2,d⟩
 ·exact .inl h
 ·refine .inr ⟨g,cap,J,h2,G.heap d (λe=> ?_)⟩
  subst e;rw[A] at d;simp only[dt,Obj.cells.injEq] at d;exact D d.2.1
def Cq (r lb cap:bx)(T:bm Tok)(w:World)(nm:aE)(y:Ty)(f:bm qD)(k:bx)(e:Ending)(w':World):Prop:=
 ∃(d:eA Addr) (c:bx) (ss:bm Sm) (h q:bp),e= ub (tW #[tM nm,tP tD 0 0,tU y.1,tM y.2,tP d ss.length c,Z U h,Z U q])/\ss.map Sm.shp=f/\
  w'.ownsRow w.heap.size 282 9 (tP d ss.length c) ss.length (ss.flatMap Hm)/\(∀s∈ss,s.inn w.heap.size w')/\bJ r lb cap T k w w'
theorem pX {r lb cap:bx}{T:bm Tok}{i j k:bx}{t x u v o z:Tok}{y:Ty}{vm:bm qD}(w:World)(h:Rd r lb cap T i w)(ht:T[i]?=tB t)(hy:xz T i y j)(hx:T[j]?=tB x)(wx:x.kind=1)(hu:T[j+1]?=tB u)(xf:dK u fD=tE)
  (hv:T[j+2]?=tB v)(vp:dK v oq=tE)(ho:T[j+3]?=tB o)(xj:dK o nz=tE)(D:iP T (j+4) vm k)(hz:T[k]?=tB z)(f:dK z jh=tE):
  gd ac 174 #[tR (tB ⟨r,0,tD⟩)] w (Cq r lb cap T w x.text y vm (k+1)):=by
 obtain⟨N,A⟩:=zE w.heap.size;obtain⟨W1,uc⟩:=zE (w.alloc (ua #[tM ⟨#[]⟩,tP tD 0 0,tU tG,tM ⟨#[]⟩,tP tD 0 0,Z U 0,Z U 0] 233));have vq:=iV uc A;have xl:W1.heap.size=N+1:=by rw[<-uc];simp[A]
 have xo:W1.heap[N]?=tB (ua #[tM ⟨#[]⟩,tP tD 0 0,tU tG,tM ⟨#[]⟩,tP tD 0 0,Z U 0,Z U 0] 233 (0,0)):=by rw[<-uc,<-A];exact alloc_at _ _
 have G:=h.grow (by rw[A];exact vq);have xp:=zH (bE W1 G ht);have AH:cm (∀W,Rd r lb cap T i W->gd ac 209 #[tR (tB ⟨r,0,tD⟩)] W λe w'=>e= ub (tW #[tU y.1,tM y.2])/\bJ r lb cap T j W w'):=λW d=>qB W d hy;have AI:cm (∀W,Rd r lb cap T j W->gd ac 208 #[tR (tB ⟨r,0,tD⟩)] W λe w'=>e= ub (.tuple #[tM x.text,tW #[Z U x.ln,Z U x.cl]])/\bJ r lb cap T (j+1) W w'):=λW d=>dZ W d hx wx;have xr:cm (∀W,Rd r lb cap T (j+1) W->gd ac 207 #[tR (tB ⟨r,0,tD⟩),tM fD] W λe w'=>e= ub (.tuple #[])/\bJ r lb cap T (j+2) W w'):=λW d=>aY fD W d hu xf;have vr:cm (∀W,Rd r lb cap T (j+2) W->zP 172 #[tR (tB ⟨r,0,tD⟩),tM oq] W (tU (dK v oq))):=λW d=>bg oq W d hv;rw[vp] at vr;have xt:cm (∀W,Rd r lb cap T (j+2) W->gd ac 207 #[tR (tB ⟨r,0,tD⟩),tM oq] W λe w'=>e= ub (.tuple #[])/\bJ r lb cap T (j+3) W w'):=λW d=>aY oq W d hv vp;have AK:cm (∀W,Rd r lb cap T (j+3) W->gd ac 210 #[tR (tB ⟨r,0,tD⟩),Z U 0] W (zb r lb cap T W vm (k+1))):=λW d=>uU 0 (by decide) (by decide) W d ho xj D hz f;unfold fD at xr;unfold oq at vr xt;simp only[Tok.cells] at xp;have hst:∀(w:World)(c:da cd),c.size=7->(dr ⟨w.heap.size,0,tD⟩ [tM ⟨#[]⟩,tP tD 0 0,tU tG,tM ⟨#[]⟩,tP tD 0 0,Z U t.ln,Z U t.cl] 0).run ac (w.alloc (ua c 233))= .ok () (w.alloc (ua #[tM ⟨#[]⟩,tP tD 0 0,tU tG,tM ⟨#[]⟩,tP tD 0 0,Z U t.ln,Z U t.cl] 233)):=λw c hc=>
  ct (P:=ac) w 233 c #[tM ⟨#[]⟩,tP tD 0 0,tU tG,tM ⟨#[]⟩,tP tD 0 0,Z U t.ln,Z U t.cl] (by show _=tB 7;kernel_rfl) hc (by simp[cj])
 have AM:=zH hst;have B9:r<N:=by rw[<-A];exact h.rlt
 have ue:cm (lb<N):=by unfold cm;rw[<-A];exact h.lt
 have AN:=zH uc;have AS:=zH vq;have xF:=zH xl;have AT:=zH xo;have H1:=zH G;have HN:=zH A;clear h ht hy hx wx hu xf hv vp ho xj D hz f uc vq xl xo G hst;have AW:=λW=>Ed t.kind t.text t.n t.ln t.cl W;go_enter func174,ntmps174
 go_upto_region 2 with(go_at_call 170;rw[AN.out];refine xp.out.mono ?_;rintro e w2 ⟨rfl,xT⟩;have A0:=AM.out w2;have ya:=zH xT;clear xT)
 clear A0 AW;obtain⟨B,hB⟩:=zE w2.heap.size;obtain⟨W3,ur⟩:=zE (w2.alloc (ua #[tM ⟨#[]⟩,tP tD 0 0,tU tG,tM ⟨#[]⟩,tP tD 0 0,Z U t.ln,Z U t.cl] 233));rw[hB,ur];have uv:=zD ur ya;have Cd:N+1<=B:=by rw[<-hB,<-xF.out];exact ya.out.size
 have yb:W3.heap[B]?=tB (ua #[tM ⟨#[]⟩,tP tD 0 0,tU tG,tM ⟨#[]⟩,tP tD 0 0,Z U t.ln,Z U t.cl] 233 (0,0)):=by rw[<-ur,<-hB];exact alloc_at _ _
 have yd:=(uv.block N (by have:=xF.out;omega)).trans AT.out;have ye:bJ r lb cap T i w W3:=⟨H1.out.grow uv,(Ext.of_below_size (M:=(·=r)) (show bh w.heap.size w W1 by rw[A];exact AS.out)).trans (Ext.of_below_size (M:=(·=r)) uv) (λk f=> .inl f)⟩
 have yi:=zH ye;have A2:=zH yb;have A4:=zH yd;clear hB ur uv yb yd ye
 go_upto_region 3 with(go_at_call 209;refine(AH.out W3 yi.out.1).mono ?_;rintro e w4 ⟨rfl,vu⟩;have yk:=zH vu;have vx:=vu.2.heap A2.out (by omega);have A5:=zH vx;obtain⟨⟨a0,a1,a2,a3,a4,a5,a6⟩,⟨b0,b1,b2,b3,b4,b5,b6⟩,ux⟩:=dY vx;clear vu vx)
 obtain⟨W5,va⟩:=zE ((w4.setCell ⟨B,2,tD⟩ (tU y.1)).setCell ⟨B,3,tD⟩ (tM y.2));rw[va];have vc:Ext (·=B) w4 W5:=by rw[<-va];exact ah (ah (Ext.refl _ _) _) _
 have yp:W5.heap[B]?=tB (ua #[tM ⟨#[]⟩,tP tD 0 0,tU y.1,tM y.2,tP tD 0 0,Z U t.ln,Z U t.cl] 233 (0,0)):=by
  rw[<-va];have G:_=tB (Obj.cells #[tM ⟨#[]⟩,tP tD 0 0,tU y.1,tM ⟨#[]⟩,tP tD 0 0,Z U t.ln,Z U t.cl] 233 (0,0)):=bk w4 B 2 _ _ (tU y.1) A5.out;exact bk _ B 3 _ _ (tM y.2) G
 have yq:=vc.heap (yk.out.2.heap A4.out (by omega)) (show¬N=B by omega);have vy:=yi.out.trans yk.out;have yr:bJ r lb cap T j w W5:=⟨vy.1.ext vc (by omega) (by have:=ue.out;omega),vy.2.trans vc (λk f=> .inr (by omega))⟩
 have yv:=zH yr;have A6:=zH yp;have Bk:=zH yq;clear va vc yp yq vy yr a0 a1 a2 a3 a4 a5 a6 b0 b1 b2 b3 b4 b5 b6 ux
 go_upto_region 4 with(go_at_call 208;refine(AI.out W5 yv.out.1).mono ?_;rintro e w6 ⟨rfl,we⟩;have yy:=zH we;have wg:=we.2.heap A6.out (by omega);have Bm:=zH wg;obtain⟨⟨a0,a1,a2,a3,a4,a5,a6⟩,⟨b0,b1,b2,b3,b4,b5,b6⟩,ux⟩:=dY wg;clear we wg)
 obtain⟨W7,vd⟩:=zE (w6.setCell ⟨B,0,tD⟩ (tM x.text));rw[vd];have vf:Ext (·=B) w6 W7:=by rw[<-vd];exact ah (Ext.refl _ _) _
 have yW:W7.heap[B]?=tB (ua #[tM x.text,tP tD 0 0,tU y.1,tM y.2,tP tD 0 0,Z U t.ln,Z U t.cl] 233 (0,0)):=by rw[<-vd];exact bk _ B 0 _ _ _ Bm.out
 have zc:=vf.heap (yy.out.2.heap Bk.out (by omega)) (show¬N=B by omega);have wi:=yv.out.trans yy.out;have zd:bJ r lb cap T (j+1) w W7:=⟨wi.1.ext vf (by omega) (by have:=ue.out;omega),wi.2.trans vf (λk f=> .inr (by omega))⟩
 have wj:=zH zd;have zj:=zH yW;have By:=zH zc;clear vd vf yW zc wi zd a0 a1 a2 a3 a4 a5 a6 b0 b1 b2 b3 b4 b5 b6 ux
 go_upto_region 5 with(go_at_call 207;refine(xr.out W7 wj.out.1).mono ?_;rintro e w8 ⟨rfl,zp⟩;have zr:=zH zp;clear zp)
 go_loopw [4] (λ_ wr=>wr=w8) (λ_ _=>0)
 case atStart=>rfl
 case round=>
  obtain rfl:=hrel
  go_upto_region 11 with(go_at_call 172;refine(vr.out _ zr.out.1).mono ?_;rintro e w9 ⟨rfl,zv⟩;have BE:=zH zv;clear zv)
  have An:=zH (zr.out.grow BE.out)
  go_upto_region 12 with(go_at_call 207;refine(xt.out _ An.out.1).mono ?_;rintro e BT ⟨rfl,As⟩;have ud:=zH (An.out.trans As);clear As)
  have At:w.heap.size<=BT.heap.size:=cY wj.out.2.size ud.out.2.size
  go_upto_region 13 with(go_at_call 210;refine(AK.out _ ud.out.1).mono ?_;rintro e J ⟨v,ss,rfl,Ax,vh,AD,wk⟩;obtain⟨ao,c,hv⟩:=ai vh;subst hv;have BY:=zH Ax;have B4:=zH (aU vh At);have B5:cm (∀s∈ss,s.inn w.heap.size J):=(λs D=>(AD s D).mono At);have AE:=zH (ud.out.trans wk);have wl:=(ud.out.trans wk).2.heap zj.out (by omega);have AF:cm (∀q,eJ (tP ao ss.length c)=tB q->B<q):=(λq hq=>by have G:=(au vh hq).1;have h2:=ae (ud.out.2.heap zj.out (by omega));omega);have B6:=zH wl;obtain⟨⟨a0,a1,a2,a3,a4,a5,a6⟩,⟨b0,b1,b2,b3,b4,b5,b6⟩,ux⟩:=dY wl;clear Ax vh AD wk wl)
  have ws:=AE.out.2.heap By.out (show¬N=r by omega);have B8:=zH ws;obtain⟨⟨p0,p1,p2,p3,p4,p5,p6⟩,⟨q0,q1,q2,q3,q4,q5,q6⟩,Cl⟩:=dY ws;clear ws;go_wp2;(try simp only[db,Exit.then]);have AG:(J.setCell ⟨B,4,tD⟩ (tP ao ss.length c)).heap[N]?=_:=(dl _ _ _ N (by show N≠B;omega)).trans B8.out;refine dv (eI (P:=ac) rfl _ _ N 233 _ (0,0) _ rfl (gF AG) underlying233 rfl (by kernel_rfl)) rfl ?_;have vi:Ext (·=B) J (J.setCell ⟨B,4,tD⟩ (tP ao ss.length c)):=Ext.set1 J B 4 _;have vj:=cK (J.setCell ⟨B,4,tD⟩ (tP ao ss.length c)) N (tM x.text) (tP tD 0 0) (tU y.1) (tM y.2) (tP ao ss.length c) (Z U t.ln) (Z U t.cl);have hM:=(wj.out.trans AE.out)
  refine⟨ao,c,ss,t.ln,t.cl,rfl,BY.out, ?_,λs D=> ?_,(hM.1.ext vi (by omega) (by have:=ue.out;omega)).ext vj (by omega) (by have:=ue.out;omega),(hM.2.trans vi (λk f=> .inr (by omega))).trans vj (λk f=> .inr (by omega))⟩
  ·exact af (af B4.out vi (λq hq e=>by have:=AF.out q hq;omega)) vj (λq hq e=>by have:=AF.out q hq;omega)
  ·exact((B5.out s D).other B6.out (by decide) vi).other AG (by decide) vj
def xG (w:World)(lb:bx)(T:bm Tok):Prop:=∀(k:bx)(t:Tok),T[k]?=tB t->∀(j:bx)(u:cd),t.cells.toList[j]?=tB u->w.cell? ⟨lb,k*5+j,tD⟩=tB u
def Bc (T:bm Tok):Prop:=∀(k:bx)(t:Tok),T[k]?=tB t->(t.kind=5↔k+1=T.length)
theorem uV (lb cap:bx)(T:bm Tok)(w:World)(hT:T.length<=1000000)(h0:0<T.length)(A:xG w lb T)(D:Bc T):
  zS 169 #[tP (tB ⟨lb,0,tD⟩) T.length cap] w (tU tE):=by
 have J:=zH A;have HE:=zH D;clear A D;go_enter func169,ntmps169;go_wp2
 go_loop [3] (λk=>∃j:bx,j<=T.length/\k= Z U (j:bp)) (λk=>T.length-(intOf k).toNat)
 case atStart=>exact⟨0,cN _,rfl⟩
 case round=>
  obtain⟨j,hj,rfl⟩:=hrel
  by_cases u:j<T.length
  ·have uc:(j:bp)<(T.length:bp):=by omega
   obtain⟨t,f⟩:∃t,T[j]?=tB t:=⟨_,am u⟩
   have G:=J.out j t f 0 _ rfl;rw[mx] at G;have q:=HE.out j t f
   by_cases d:t.kind=5
   ·have v:j+1=T.length:=q.1 d
    rw[d] at G;have d1:((j:bp)==(T.length:bp)-1)=tE:=by rw[mN];omega
    clear f q d v;go_wp2
    go_round
    case rel=>exact⟨j+1,u,by go_num⟩
    case measure=>simp[intOf];omega
   ·have v:j+1≠T.length:=λh=>d (q.2 h)
    have d5:(t.kind==5)=tG:=by rw[dp];exact d
    have d1:((j:bp)==(T.length:bp)-1)=tG:=by rw[dp];omega
    clear f q d v;go_wp2
    go_round
    case rel=>exact⟨j+1,u,by go_num⟩
    case measure=>simp[intOf];omega
  ·have uc:¬(j:bp)<(T.length:bp):=by omega
   have ud:(0:bp)<(T.length:bp):=by omega
   have ue:decide ((0:bp)<(T.length:bp))=tE:=by rw[ly];omega
   go_wp2;go_ret;exact⟨rfl,rfl⟩
theorem Fu:(ac.info? 90).map (λi=>(i.zero,i.size,i.bytes))=tB (tB (tW #[tM ⟨#[]⟩,tP tD 0 0,Z U 0,Z U 0]),4,56):=by kernel_rfl
theorem Fv:(ac.info? 233).map (λi=>(i.zero,i.size,i.bytes))=tB (tB (tW #[tM ⟨#[]⟩,tP tD 0 0,tU tG,tM ⟨#[]⟩,tP tD 0 0,Z U 0,Z U 0]),7,104):=by kernel_rfl
structure Pg where
 snm:aE
 fs:bm Fd
 fA:eA Addr
 fC:bx
 sl:bp
 sc:bp
 nm:aE
 ret:Ty
 ss:bm Sm
 bA:eA Addr
 bC:bx
 gl:bp
 gc:bp
 pA:bx
 pC:bx
 qA:bx
 qC:bx
def Pg.stc (p:Pg):bm cd:=[tM p.snm,tP p.fA p.fs.length p.fC,Z U p.sl,Z U p.sc]
def Pg.fnc (p:Pg):bm cd:=[tM p.nm,tP tD 0 0,tU p.ret.1,tM p.ret.2,tP p.bA p.ss.length p.bC,Z U p.gl,Z U p.gc]
def Pg.cells (p:Pg):da cd:=#[tP (tB ⟨p.pA,0,tD⟩) 1 p.pC,tP (tB ⟨p.qA,0,tD⟩) 1 p.qC]
structure Pg.inn (p:Pg)(B:bx)(w:World):Prop where
 fields:w.ownsRow B 92 5 (tP p.fA p.fs.length p.fC) p.fs.length (p.fs.flatMap uG)
 strs:w.ownsRow B 90 4 (tP (tB ⟨p.pA,0,tD⟩) 1 p.pC) 1 p.stc
 stmts:w.ownsRow B 282 9 (tP p.bA p.ss.length p.bC) p.ss.length (p.ss.flatMap Hm)
 exprs:∀s∈p.ss,s.inn B w
 fns:w.ownsRow B 233 7 (tP (tB ⟨p.qA,0,tD⟩) 1 p.qC) 1 p.fnc
def xH (w:World)(snm:aE)(l:bm (aE×Ty))(nm:aE)(y:Ty)(d:bm qD)(e:Ending)(w':World):Prop:=
 ∃p:Pg,e= ub (.tuple #[tW p.cells,tW #[Z U 0,Z U 0,Z U 0,Z U 0]])/\p.snm=snm/\p.fs.map Fd.shp=l/\p.nm=nm/\p.ret=y/\p.ss.map Sm.shp=d/\p.inn w.heap.size w'/\bh w.heap.size w w'
structure rV (T:bm Tok)(snm:aE)(l:bm (aE×Ty))(nm:aE)(y:Ty)(shs:bm qD):Prop where
 ended:Bc T
 short:T.length<=1000000
 toks:∃(k j m:bx) (t x u z z2 t2 x2 u2 v2 o2 s2 e2:Tok),T[0]?=tB t/\dK t jI=tE/\T[1]?=tB x/\x.kind=1/\x.text=snm/\T[2]?=tB u/\dK u nz=tE/\iB T 3 l k/\T[k]?=tB z/\dK z jh=tE/\T[k+1]?=tB z2/\dK z2 dO=tE/\
  T[k+2]?=tB t2/\dK t2 jI=tG/\xz T (k+2) y j/\T[j]?=tB x2/\x2.kind=1/\x2.text=nm/\T[j+1]?=tB u2/\dK u2 fD=tE/\T[j+2]?=tB v2/\dK v2 oq=tE/\T[j+3]?=tB o2/\dK o2 nz=tE/\iP T (j+4) shs m/\T[m]?=tB s2/\dK s2 jh=tE/\
  T[m+1]?=tB e2/\e2.kind=5
def GK (N lb cap:bx)(T:bm Tok)(d:World)(j:bx)(wr:World):Prop:=Rd (N+2) lb cap T j wr/\Ext (λq=>q=N+2\/q=N+3) d wr
def Fw (lb cap:bx)(T:bm Tok)(snm:aE)(l:bm (aE×Ty))(nm:aE)(y:Ty)(f:bm qD)(k m N:bx)(d:World)(wr:World):Prop:=
 (GK N lb cap T d 0 wr/\wr.heap[N+3]?=tB (ua #[tP tD 0 0,tP tD 0 0] 179 (0,0)))\/
 (∃p:Pg,GK N lb cap T d (k+2) wr/\p.snm=snm/\p.fs.map Fd.shp=l/\wr.ownsRow (N+4) 92 5 (tP p.fA p.fs.length p.fC) p.fs.length (p.fs.flatMap uG)/\wr.ownsRow (N+4) 90 4 (tP (tB ⟨p.pA,0,tD⟩) 1 p.pC) 1 p.stc/\
  wr.heap[N+3]?=tB (ua #[tP (tB ⟨p.pA,0,tD⟩) 1 p.pC,tP tD 0 0] 179 (0,0)))\/
 (∃p:Pg,GK N lb cap T d (m+1) wr/\p.snm=snm/\p.fs.map Fd.shp=l/\p.nm=nm/\p.ret=y/\p.ss.map Sm.shp=f/\p.inn (N+4) wr/\wr.heap[N+3]?=tB (ua p.cells 179 (0,0)))
theorem fG {w:World}{base:bx}{e:gx}{size n:bx}{v:cd}{xs:bm cd}(h:w.ownsRow base e size v (n+1) xs):∃g c,v= tP (tB ⟨g,0,tD⟩) (n+1) c/\base<=g/\g<w.heap.size:=by
 rcases h.2 with⟨_,d⟩|⟨g,cap,cur,f,d,q,_⟩
 ·cases d
 ·exact⟨g,cap,f,d,ae q⟩
theorem uW {lb cap:bx}{T:bm Tok}{snm nm:aE}{l:bm (aE×Ty)}{y:Ty}{vr:bm qD}(w:World)(wk:xG w lb T)(CN:lb<w.heap.size)(hx:rV T snm l nm y vr):
  gd ac 129 #[tP (tB ⟨lb,0,tD⟩) T.length cap] w (xH w snm l nm y vr):=by
 obtain⟨he,hT,k,j,m,t,x,u,z,z2,t2,x2,u2,v2,o2,s2,e2,a1,a2,a3,a4,a5,a6,a7,a8,a9,AW,A0,A2,b1,b2,b3,b4,b5,b6,b7,b8,b9,A4,A5,A6,yv,Bk,Bm,c1,c2⟩:=hx;obtain⟨N,hN⟩:=zE w.heap.size;obtain⟨W2,wl⟩:=zE ((w.alloc (ua #[tP tD 0 0,tP tD 0 0] 179)).alloc (ua #[Z U 0,Z U 0,Z U 0,Z U 0] 113));obtain⟨W4,vm⟩:=zE ((W2.alloc (ua #[tP (tB ⟨lb,0,tD⟩) T.length cap,Z U 0,Z U 0,Z U 0,Z U 0,Z U 0] 269)).alloc (ua #[tP tD 0 0,tP tD 0 0] 179));have yy:=uF wl hN;have yW:W2.heap.size=N+2:=by rw[<-wl];simp[hN]
 have zc:bh N w W4:=by rw[<-vm];exact(yy.alloc (by omega) _).alloc (by simp;omega) _
 have By:W4.heap.size=N+4:=by rw[<-vm];simp[yW]
 have BE:W4.heap[N]?=tB (ua #[tP tD 0 0,tP tD 0 0] 179 (0,0)):=by
  rw[<-vm];refine(cn _ _ N (by simp;omega)).trans ((cn _ _ N (by omega)).trans ?_);rw[<-wl,<-hN];exact ia _ _ _
 have BT:W4.heap[N+1]?=tB (ua #[Z U 0,Z U 0,Z U 0,Z U 0] 113 (0,0)):=by
  rw[<-vm];refine(cn _ _ (N+1) (by simp;omega)).trans ((cn _ _ (N+1) (by omega)).trans ?_);rw[<-wl,<-hN];exact lx _ _ _
 have BY:=yP vm yW;have B4:W4.heap[N+3]?=tB (ua #[tP tD 0 0,tP tD 0 0] 179 (0,0)):=by rw[<-vm,show N+3=W2.heap.size+1 by omega];exact lx _ _ _
 have CT:0<T.length:=by have:=(ap.1 a1).1;omega
 have B5:Rd (N+2) lb cap T 0 W4:=⟨BY,λq t ht jj u hu=>by rw[zc.cell (p:=⟨lb,q*5+jj,tD⟩) (by show lb<N;omega)];exact wk q t ht jj u hu,by omega,by omega,hT⟩
 have C3:cm (zS 169 #[tP (tB ⟨lb,0,tD⟩) T.length cap] W2 (tU tE)):=uV lb cap T W2 hT CT (λq t ht jj u hu=>by rw[yy.cell (p:=⟨lb,q*5+jj,tD⟩) (by show lb<N;omega)];exact wk q t ht jj u hu) he;have zd:cm (∀(j:bx)(t:Tok) W,T[j]?=tB t->Rd (N+2) lb cap T j W->zP 170 #[tR (tB ⟨N+2,0,tD⟩)] W (tW #[Z U t.kind,tM t.text,Z U t.n,Z U t.ln,Z U t.cl])):=λj t W ht h=>bE W h ht;have zj:cm (∀(j:bx) W,Rd (N+2) lb cap T j W->zS 171 #[tR (tB ⟨N+2,0,tD⟩)] W (tU tG)):=λj W hW=>bB W hW;have B6:cm (∀(j:bx)(t:Tok) W,T[j]?=tB t->Rd (N+2) lb cap T j W->zP 172 #[tR (tB ⟨N+2,0,tD⟩),tM ⟨#[115,116,114,117,99,116]⟩] W (tU (dK t jI))):=λj t W ht hW=>bg jI W hW ht;have C4:cm (∀W,Rd (N+2) lb cap T 0 W->gd ac 173 #[tR (tB ⟨N+2,0,tD⟩)] W (Cn (N+2) lb cap T W snm l (k+2))):=λW hW=>by
  rw[<-a5];exact ou W hW a1 a2 a3 a4 a6 a7 a8 a9 AW A0 A2
 have C5:cm (∀W,Rd (N+2) lb cap T (k+2) W->gd ac 174 #[tR (tB ⟨N+2,0,tD⟩)] W (Cq (N+2) lb cap T W nm y vr (m+1))):=λW hW=>by
  rw[<-b6];exact pX W hW b1 b3 b4 b5 b7 b8 b9 A4 A5 A6 yv Bk Bm
 have C6:(t.kind==5)=tG:=by rw[dp];have:=xC a2;omega
 have Fl:m+1<T.length:=(ap.1 c1).1;have Fm:k+2<m+1:=by
  have h1:=yv.le;obtain⟨_,_,_,h2⟩:=b3.first
  omega
 have C7:(t2.kind==5)=tG:=by
  rw[dp];intro h;have:=(he _ _ b1).1 h;omega
 have Fo:(t.kind != 5)=tE:=by rw[bne,C6];rfl
 have Fr:(t2.kind != 5)=tE:=by rw[bne,C7];rfl
 have B8:=zH a1;have Dd:=zH a2;have B9:=zH b1;have Dg:=zH b2;have Do:=zH c1;have Ds:=zH c2;have DA:=zH wl;have DB:=zH vm;have DE:=zH zc;have Cd:=zH By;have Ft:=zH yW;have DG:=zH BE;have DH:=zH BT;have HN:=zH hN;have DM:cm (Fw lb cap T snm l nm y vr k m N W4 W4):= .inl ⟨⟨B5,Ext.refl _ _⟩,B4⟩;obtain⟨i0,DO,DP,DQ,DS⟩:=gA Fu;obtain⟨j0,D0,D1,D2,D3⟩:=gA Fv;have Cl:cm (lb<N):=by unfold cm;omega
 clear wk CN he a1 a2 a3 a4 a5 a6 a7 a8 a9 AW A0 A2 b1 b2 b3 b4 b5 b6 b7 b8 b9 A4 A5 A6 yv Bk Bm c1 c2 wl vm yy zc By BE BT BY B4 B5;go_enter func129,ntmps129
 go_upto_region 5 with(go_at_call 169;rw[DA.out];refine C3.out.mono ?_;rintro e W2 ⟨rfl,rfl⟩)
 rw[DB.out];simp only[sB,Nat.reduceAdd]
 go_loopw [14] (λ_ wr=>Fw lb cap T snm l nm y vr k m N W4 wr) (λ_ wr=>rT (N+2) T wr)
 case atStart=>exact DM.out
 case round=>
  rcases hrel with⟨⟨ur,hx⟩,hP⟩|⟨p,⟨ur,hx⟩,wx,xf,xj,xl,hP⟩|⟨p,⟨ur,hx⟩,wx,xf,xj,xl,Cp,CA,hP⟩
  ·have uc:=zH ur
   have HX:=zH hx;have HP:=zH hP;have zp:=zH (gp ur);clear ur hx hP;have xo:=λW=>rU t.kind t.text t.n t.ln t.cl W
   go_upto_region 7 with(first
    |(go_at_call 170;refine(zd.out (0) _ wr B8.out uc.out).mono ?_;rintro e w5 ⟨rfl,vp⟩;have A:=zH vp;clear vp)
    |(go_at_call 171;refine(zj.out (0) w5 (uc.out.grow A.out)).mono ?_;rintro e f ⟨rfl,rfl⟩)
    |(go_at_call 172;refine(B6.out (0) _ w5 B8.out (uc.out.grow A.out)).mono ?_;rw[Dd.out];rintro e f ⟨rfl,xp⟩;have vu:=zH (A.out.trans (xp.mono A.out.size));clear xp))
   clear xo;have xr:=uc.out.grow vu.out;have uv:=(vu.out.block (N+3) (ae HP.out)).trans HP.out;have yr:N+4<=f.heap.size:=ae uv;obtain⟨⟨p0,p1⟩,⟨q0,q1⟩,CC⟩:=cB uv;have zr:=zH xr;have ux:=zH uv;obtain⟨S,hS⟩:=zE ((λw'=>w'.cell? ⟨N+3,0,tD⟩=tB (tP tD 0 0)):World->Prop);have xt:∀w,S w->w.cell? ⟨N+3,0,tD⟩=tB (tP tD 0 0):=λw h=>by rw[<-hS] at h;exact h
   have vx:∀w,w.cell? ⟨N+3,0,tD⟩=tB (tP tD 0 0)->S w:=λw h=>by rw[<-hS];exact h
   have va:=zH xt;have vy:=zH vx;have D4:S f.drew:=vx _ (by first|exact p0|simpa using p0);clear hS xt vx xr uv;refine ak 7 S (by kernel_rfl) ?_;refine zT 0 rfl va.out ?_
   try go_simp
   refine zT 1 rfl va.out ?_
   try go_simp
   refine zT 2 rfl va.out ?_
   try go_simp
   refine zO 3 rfl λK' d=> ?_;go_simp;go_at_call 173;refine(C4.out f.drew (zr.out.grow ((aq _ _).drew))).mono ?_;rintro e w7 ⟨ao,c,fs,ln,cl,rfl,xF,xT,vc⟩;have we:=vc.2;have vd:=we.heap ux.out (show¬N+3=N+2 by omega);have ya:S w7:=vy.out _ (rowAt vd 0 rfl).1;have Ek:f.heap.size<=w7.heap.size:=vc.2.size;have wg:=aU xT (show N+4<=f.drew.heap.size from yr);refine d _ _ ya ?_;clear d
   try go_simp
   refine zO 4 rfl λK' d=> ?_;go_simp;obtain⟨G,hG⟩:=zE w7.heap.size;obtain⟨W8,vf⟩:=zE (w7.alloc (ua #[tM snm,tP ao fs.length c,Z U ln,Z U cl] 90))
   try rw[hG]
   try rw[vf]
   have J:=iq vf;have yb:W8.heap[G]?=tB (ua #[tM snm,tP ao fs.length c,Z U ln,Z U cl] 90 (0,0)):=by rw[<-vf,<-hG];exact alloc_at _ _
   have wi:=(J.block (N+3) (ae vd)).trans vd;refine d _ _ (vy.out _ (rowAt wi 0 rfl).1) ?_;clear d
   try go_simp
   refine zO 5 rfl λK' d=> ?_;have zv:N+4<=W8.heap.size:=by have:=J.size;omega
   refine aH (.tmp 26) (.tmp 29) 22 rfl (N+4) 90 i0 _ 4 56 underlying22 DO DP DQ DS rfl (by decide) (tP tD 0 0) 0 [] rfl (World.ownsRow_nil _ _ _ _) (tB ⟨G,0,tD⟩) 1 1 [tM snm,tP ao fs.length c,Z U ln,Z U cl] rfl rfl (λh=>by cases h) (λad An jj uu hu=>by
    obtain rfl:(⟨G,0,tD⟩:Addr)=ad:=by simpa using An
    rw[dc,cV,cc _ _ _ _ _ _ yb];simpa using hu) (by simp[cj]) (by unfold dT;omega) (by omega) zv ?_
   intro v9 w9 vh yd As;obtain⟨g9,c9,At,EV,E0⟩:=fG vh;subst At;have ud:Ext (λ_=>mb) W8 w9:=Ext.of_grown yd (λq D=>by cases D);have vi:=ud.heap wi (λh=>h);have ye:S w9:=vy.out _ (rowAt vi 0 rfl).1;obtain⟨⟨r0,r1⟩,⟨s0,s1⟩,E3⟩:=cB vi;refine d _ _ ye ?_;clear d
   try go_simp
   refine zT 6 rfl va.out ?_
   try go_simp
   refine zK rfl λK' d=> ?_;go_simp;refine d _ _ ?_;clear d;refine⟨by kernel_rfl, ?_⟩;obtain⟨WF,vj⟩:=zE (w9.setCell ⟨N+3,0,tD⟩ (tP (tB ⟨g9,0,tD⟩) 1 c9))
   try rw[vj]
   have ue:Ext (·=N+3) w9 WF:=by rw[<-vj];exact Ext.set1 w9 (N+3) 0 _
   have yi:Ext (·=N+2) f w9:=(((Ext.refl (·=N+2) f).drew.trans we (λq h=> .inl h)).trans (Ext.of_below_size (M:=λ_=>mb) J) (λq h=>h.elim)).trans ud (λq h=>h.elim);have yk:Ext (λq=>q=N+2\/q=N+3) f WF:=(yi.mono (λq h=> .inl h)).trans ue (λq h=> .inl (.inr h));have ws:Ext (λq=>q=N+2\/q=N+3) wr WF:=(Ext.of_below_size (M:=λq=>q=N+2\/q=N+3) vu.out).trans yk (λq h=> .inl h);have wj:Rd (N+2) lb cap T (k+2) WF:=((vc.1.grow J).ext ud (λh=>h) (λh=>h)).ext ue (by omega) (by have:=Cl.out;omega);have yp:WF.heap[N+3]?=tB (ua #[tP (tB ⟨g9,0,tD⟩) 1 c9,tP tD 0 0] 179 (0,0)):=by rw[<-vj];exact bk w9 (N+3) 0 _ _ _ vi
   have yq:Fw lb cap T snm l nm y vr k m N W4 WF:= .inr (.inl ⟨⟨snm,fs,ao,c,ln,cl,⟨#[]⟩,bI,[],tD,0,0,0,g9,c9,0,0⟩,⟨wj,HX.out.trans ws (λq h=> .inl h)⟩,rfl,xF,
    af (af (ownsRow_below wg J) ud (λq _ h=>h)) ue (λq D e=>by have:=(au wg D).1;omega),
    af vh ue (λq D e=>by have:=(au vh D).1;omega),yp⟩)
   have E4:k+2<T.length:=by omega
   have Ax:=zH (gp wj);have AD:=zH yq;clear vj ue yi yk ws wj yp yq yd As vh wg xT xF we vc vd wi vi ud J yb vf hG ya ye r0 r1 s0 s1;go_wp2;go_roundw
   case rel=>exact AD.out
   case measure=>
    rw[Ax.out,zp.out];omega
  ·have uc:=zH ur
   have HX:=zH hx;have HP:=zH hP;have zp:=zH (gp ur);have AE:=zH wx;have AF:=zH xf;have AG:=zH xj;have AH:=zH xl;clear ur hx hP wx xf xj xl;have xo:=λW=>rU t2.kind t2.text t2.n t2.ln t2.cl W
   go_upto_region 8 with(first
    |(go_at_call 170;refine(zd.out (k+2) _ wr B9.out uc.out).mono ?_;rintro e w5 ⟨rfl,vp⟩;have A:=zH vp;clear vp)
    |(go_at_call 171;refine(zj.out (k+2) w5 (uc.out.grow A.out)).mono ?_;rintro e f ⟨rfl,rfl⟩)
    |(go_at_call 172;refine(B6.out (k+2) _ w5 B9.out (uc.out.grow A.out)).mono ?_;rw[Dg.out];rintro e f ⟨rfl,xp⟩;have vu:=zH (A.out.trans (xp.mono A.out.size));clear xp))
   clear xo;have xr:=uc.out.grow vu.out;have uv:=(vu.out.block (N+3) (ae HP.out)).trans HP.out;have yr:N+4<=f.heap.size:=ae uv;obtain⟨⟨p0,p1⟩,⟨q0,q1⟩,CC⟩:=cB uv;have zr:=zH xr;have ux:=zH uv;obtain⟨S,hS⟩:=zE ((λw'=>w'.cell? ⟨N+3,1,tD⟩=tB (tP tD 0 0)):World->Prop);have xt:∀w,S w->w.cell? ⟨N+3,1,tD⟩=tB (tP tD 0 0):=λw h=>by rw[<-hS] at h;exact h
   have vx:∀w,w.cell? ⟨N+3,1,tD⟩=tB (tP tD 0 0)->S w:=λw h=>by rw[<-hS];exact h
   have va:=zH xt;have vy:=zH vx;have D4:S f.drew:=vx _ (by first|exact p1|simpa using p1);clear hS xt vx xr uv;refine ak 7 S (by kernel_rfl) ?_;refine zT 0 rfl va.out ?_
   try go_simp
   refine zT 1 rfl va.out ?_
   try go_simp
   refine zT 2 rfl va.out ?_
   try go_simp
   refine zO 3 rfl λK' d=> ?_;go_simp;go_at_call 174;refine(C5.out f.drew (zr.out.grow ((aq _ _).drew))).mono ?_;rintro e w7 ⟨ao,c,ss,ln,cl,rfl,xF,xT,wk,vc⟩;have we:=vc.2;have vd:=we.heap ux.out (show¬N+3=N+2 by omega);have ya:S w7:=vy.out _ (rowAt vd 1 rfl).1;have Ek:f.heap.size<=w7.heap.size:=vc.2.size;have wg:=aU xT (show N+4<=f.drew.heap.size from yr);have CD:∀s∈ss,s.inn (N+4) w7:=λs hs=>(wk s hs).mono (show N+4<=f.drew.heap.size from yr);refine d _ _ ya ?_;clear d
   try go_simp
   refine zO 4 rfl λK' d=> ?_;go_simp;obtain⟨G,hG⟩:=zE w7.heap.size;obtain⟨W8,vf⟩:=zE (w7.alloc (ua #[tM nm,tP tD 0 0,tU y.1,tM y.2,tP ao ss.length c,Z U ln,Z U cl] 233))
   try rw[hG]
   try rw[vf]
   have J:=iq vf;have yb:W8.heap[G]?=tB (ua #[tM nm,tP tD 0 0,tU y.1,tM y.2,tP ao ss.length c,Z U ln,Z U cl] 233 (0,0)):=by rw[<-vf,<-hG];exact alloc_at _ _
   have wi:=(J.block (N+3) (ae vd)).trans vd;refine d _ _ (vy.out _ (rowAt wi 1 rfl).1) ?_;clear d
   try go_simp
   refine zO 5 rfl λK' d=> ?_;have zv:N+4<=W8.heap.size:=by have:=J.size;omega
   refine aH (.tmp 33) (.tmp 36) 177 rfl (N+4) 233 j0 _ 7 104 underlying177 D0 D1 D2 D3 rfl (by decide) (tP tD 0 0) 0 [] rfl (World.ownsRow_nil _ _ _ _) (tB ⟨G,0,tD⟩) 1 1 [tM nm,tP tD 0 0,tU y.1,tM y.2,tP ao ss.length c,Z U ln,Z U cl] rfl rfl (λh=>by cases h) (λad An jj uu hu=>by
    obtain rfl:(⟨G,0,tD⟩:Addr)=ad:=by simpa using An
    rw[dc,cV,cc _ _ _ _ _ _ yb];simpa using hu) (by simp[cj]) (by unfold dT;omega) (by omega) zv ?_
   intro v9 w9 vh yd As;obtain⟨g9,c9,At,EV,E0⟩:=fG vh;subst At;have ud:Ext (λ_=>mb) W8 w9:=Ext.of_grown yd (λq D=>by cases D);have vi:=ud.heap wi (λh=>h);have ye:S w9:=vy.out _ (rowAt vi 1 rfl).1;obtain⟨⟨r0,r1⟩,⟨s0,s1⟩,E3⟩:=cB vi;refine d _ _ ye ?_;clear d
   try go_simp
   refine zT 6 rfl va.out ?_
   try go_simp
   refine zK rfl λK' d=> ?_;go_simp;refine d _ _ ?_;clear d;refine⟨by kernel_rfl, ?_⟩;obtain⟨WF,vj⟩:=zE (w9.setCell ⟨N+3,1,tD⟩ (tP (tB ⟨g9,0,tD⟩) 1 c9))
   try rw[vj]
   have ue:Ext (·=N+3) w9 WF:=by rw[<-vj];exact Ext.set1 w9 (N+3) 1 _
   have yi:Ext (·=N+2) f w9:=(((Ext.refl (·=N+2) f).drew.trans we (λq h=> .inl h)).trans (Ext.of_below_size (M:=λ_=>mb) J) (λq h=>h.elim)).trans ud (λq h=>h.elim);have yk:Ext (λq=>q=N+2\/q=N+3) f WF:=(yi.mono (λq h=> .inl h)).trans ue (λq h=> .inl (.inr h));have ws:Ext (λq=>q=N+2\/q=N+3) wr WF:=(Ext.of_below_size (M:=λq=>q=N+2\/q=N+3) vu.out).trans yk (λq h=> .inl h);have wj:Rd (N+2) lb cap T (m+1) WF:=((vc.1.grow J).ext ud (λh=>h) (λh=>h)).ext ue (by omega) (by have:=Cl.out;omega);have yp:WF.heap[N+3]?=tB (ua #[tP (tB ⟨p.pA,0,tD⟩) 1 p.pC,tP (tB ⟨g9,0,tD⟩) 1 c9] 179 (0,0)):=by rw[<-vj];exact bk w9 (N+3) 1 _ _ _ vi
   have vq:∀{e:gx}{size n:bx}{v:cd}{xs:bm cd},wr.ownsRow (N+4) e size v n xs->WF.ownsRow (N+4) e size v n xs:=λh=>af h ws (λq D e=>by have:=(au h D).1;omega);have yq:Fw lb cap T snm l nm y vr k m N W4 WF:= .inr (.inr ⟨⟨p.snm,p.fs,p.fA,p.fC,p.sl,p.sc,nm,y,ss,ao,c,ln,cl,p.pA,p.pC,g9,c9⟩,⟨wj,HX.out.trans ws (λq h=> .inl h)⟩,AE.out,AF.out,rfl,rfl,xF,
    ⟨vq AG.out,vq AH.out,af (af (ownsRow_below wg J) ud (λq _ h=>h)) ue (λq D e=>by have:=(au wg D).1;omega),
     λs hs=>(((CD s hs).ext (Ext.of_below_size (M:=λ_=>mb) J) (λ_ _ _ h=>h)).ext ud (λ_ _ _ h=>h)).ext ue (λq h1 _=>by omega),
     af vh ue (λq D e=>by have:=(au vh D).1;omega)⟩,yp⟩)
   have E4:k+2<T.length:=by omega
   clear wk CD vq;have Ax:=zH (gp wj);have AD:=zH yq;clear vj ue yi yk ws wj yp yq yd As vh wg xT xF we vc vd wi vi ud J yb vf hG ya ye r0 r1 s0 s1;go_wp2;go_roundw
   case rel=>exact AD.out
   case measure=>
    rw[Ax.out,zp.out];omega
  ·have uc:=zH ur
   have HX:=zH hx;have HP:=zH hP;have AE:=zH wx;have AF:=zH xf;have AG:=zH xj;have AH:=zH xl;have E6:=zH Cp;have ux:=zH CA;clear ur hx hP wx xf xj xl Cp CA;have xo:=λW=>rU 5 e2.text e2.n e2.ln e2.cl W;have E7:cm (∀W,bh wr.heap.size wr W->zS 171 #[tR (tB ⟨N+2,0,tD⟩)] W (tU tG)):=λW hW=>zj.out (m+1) W (uc.out.grow hW)
   go_upto_region 11 with(first
    |(go_at_call 170;refine(zd.out (m+1) _ wr Do.out uc.out).mono ?_;rw[Ds.out];rintro e w5 ⟨rfl,vp⟩;have A:=zH vp;clear vp)
    |(go_at_call 171;refine(E7.out w5 A.out).mono ?_;rintro e f ⟨rfl,rfl⟩))
   clear xo;have AI:=(A.out.block (N+3) (ae HP.out)).trans HP.out;have AK:=HX.out.heap DG.out (show¬(N=N+2\/N=N+3) by omega);have AM:=HX.out.heap DH.out (show¬(N+1=N+2\/N+1=N+3) by omega);have AN:=(A.out.block N (ae AK)).trans AK;have AS:=(A.out.block (N+1) (ae AM)).trans AM;have Fc:=zH AN;have Fi:=zH AS;unfold Pg.cells at AI;obtain⟨⟨p0,p1⟩,⟨q0,q1⟩,CC⟩:=cB AI;obtain⟨⟨b0,b1⟩,⟨d0,d1⟩,FA⟩:=cB AN;obtain⟨⟨e0,e1,FF,e3⟩,⟨f0,f1,f2,f3⟩,FG⟩:=mY AS;clear AI AK AM AN AS;go_wp2;(try simp only[db,Exit.then]);have CH:∀W u0 u1,Ext (·=N) W ((W.setCell ⟨N,0,tD⟩ u0).setCell ⟨N,1,tD⟩ u1):=λW u0 u1=>ah (ah (Ext.refl _ _) _) _;have CM:∀W u0 u1 u2 u3,Ext (·=N+1) W ((((W.setCell ⟨N+1,0,tD⟩ u0).setCell ⟨N+1,1,tD⟩ u1).setCell ⟨N+1,2,tD⟩ u2).setCell ⟨N+1,3,tD⟩ u3):=λW u0 u1 u2 u3=>ah (ah (ah (ah (Ext.refl _ _) _) _) _) _;refine dv (dB rfl _ _ N (N+1) 179 113 _ _ (0,0) (0,0) _ _ rfl ((CM _ _ _ _ _).heap (bv Fc.out) (show¬N=N+1 by omega)) rfl (jd ((CH _ _ _).heap Fi.out (show¬N+1=N by omega))) underlying179 (by kernel_rfl) ph (by kernel_rfl)) rfl ?_;have Fk:Ext (λ_=>mb) wr w5:=Ext.of_below_size A.out;have AT:Ext (λq=>q=N\/q=N+1) wr _:=((Fk.mono (λ_ h=>h.elim)).trans (CH w5 (tP (tB ⟨p.pA,0,tD⟩) 1 p.pC) (tP (tB ⟨p.qA,0,tD⟩) 1 p.qC)) (λq h=> .inl (.inl h))).trans (CM _ (Z U 0) (Z U 0) (Z U 0) (Z U 0)) (λq h=> .inl (.inr h));have vq:∀{e:gx}{size n:bx}{v:cd}{xs:bm cd},wr.ownsRow (N+4) e size v n xs->_:=λ{e size n v xs} h=>aU (af (e:=e) (size:=size) (n:=n) (v:=v) (xs:=xs) h AT (λq D e=>by have:=(au h D).1;omega)) (show w.heap.size<=N+4 by omega);refine⟨p,rfl,AE.out,AF.out,AG.out,AH.out,E6.out,⟨vq ux.out.fields,vq ux.out.strs,vq ux.out.stmts,λs hs=>((ux.out.exprs s hs).ext AT (λq h1 _=>by omega)).mono (by omega),vq ux.out.fns⟩, ?_⟩;rw[hN];exact DE.out.trans ((HX.out.below (by rw[Cd.out];omega) (λq h=>by omega)).trans (AT.below (cY (by rw[Cd.out];omega) HX.out.size) (λq h=>by omega)))
theorem xI {α:Type}{f:α->bm cd}{m:bx}(q:∀x,(f x).length=m):∀(l:bm α)(k j:bx)(x:α)(u:cd),l[k]?=tB x->(f x)[j]?=tB u->(l.flatMap f)[k*m+j]?=tB u
 |[],k,_,_,_,h,_=>by simp at h
 |y::l,0,j,x,u,h,d=>by
  obtain rfl:y=x:=by simpa using h
  rw[el,Nat.zero_mul,cV,gR (ap.1 d).1];exact d
 |y::l,k+1,j,x,u,h,d=>by
  have ih:=xI q l k j x u (by simpa using h) d;rw[el,et (by rw[q];rw[re];omega),q,show(k+1)*m+j-m=k*m+j by rw[re];omega];exact ih
theorem wm {α:Type}{f:α->bm cd}{m base n g c:bx}(q:∀x,(f x).length=m){w:World}{e:gx}{l:bm α}(h:w.ownsRow base e m (tP (tB ⟨g,0,tD⟩) n c) n (l.flatMap f)){k j:bx}{x:α}{u:cd}(v:l[k]?=tB x)(A:(f x)[j]?=tB u):
  w.cell? ⟨g,k*m+j,tD⟩=tB u:=by
 have d:=h.cells (g:=g) rfl (k*m+j) u (xI q l k j x u v A);rw[dc,cV] at d;exact d
def Ee (w:World)(Q:bm qD->Prop)(f:aE)(l:bm (aE×Ty))(nm:aE)(y:Ty)(e:Ending)(w':World):Prop:=∃d,Q d/\xH w f l nm y d e w'
theorem xJ (s:aE)(R:bm AC)(n0:bx)(Q:bm qD->Prop)(ud nm:aE)(l:bm (aE×Ty))(y:Ty)(w:World)(hs:s.size<=1000000)(xj:om s)(h0:s.size≠0)(hR:l5 s n0 (fZ s s.size 0)=tB R)
  (hT:∀T:bm Tok,T.map Tok.sig=R++[(5,⟨#[]⟩,0)]->∃d,Q d/\rV T ud l nm y d):
  gd ac 92 #[tM s] w (Ee w Q ud l nm y):=by
 obtain⟨N,J⟩:=zE w.heap.size;obtain⟨W2,G⟩:=zE ((w.alloc (ua #[tP tD 0 0,tP tD 0 0] 179)).alloc (ua #[Z U 0,Z U 0,Z U 0,Z U 0] 113));have vm:=uF G J;have vp:W2.heap.size=N+2:=by rw[<-G];simp[J]
 have vq:=yP G J;have vr:=AO G J;have xl:=zH (xu s R n0 W2 hs xj h0 hR);have hst:∀(w:World)(c:da cd),c.size=4->(dr ⟨w.heap.size,0,tD⟩ [Z U 0,Z U 0,Z U 0,Z U 0] 0).run ac (w.alloc (ua c 113))= .ok () (w.alloc (ua #[Z U 0,Z U 0,Z U 0,Z U 0] 113)):=λw c hc=>
  ct (P:=ac) w 113 c #[Z U 0,Z U 0,Z U 0,Z U 0] (by show _=tB 4;kernel_rfl) hc (by simp[cj])
 have xo:=zH hst;have HT:=zH hT;have xp:=zH G;have xr:=zH vm;have uc:=zH vp;have xt:=zH vq;have xF:=zH vr;have xT:cm (∀(lb cap:bx)(T:bm Tok)(d:bm qD)(W:World),xG W lb T->lb<W.heap.size->rV T ud l nm y d->gd ac 129 #[tP (tB ⟨lb,0,tD⟩) T.length cap] W (xH W ud l nm y d)):=λlb cap T d W h1 h2 h3=>uW W h1 h2 h3;clear hR hT G vm vp vq vr hst;go_enter func92,ntmps92
 go_upto_region 2 with(go_at_call 128;rw[xp.out];refine xl.out.mono ?_;rintro e w3 ⟨v,T,rfl,ue,vu,vx⟩;obtain⟨d,hQ,vc⟩:=HT.out T vu;obtain⟨q,hq⟩:∃q,T.length=q+1:=⟨T.length-1,by obtain⟨_,_,k,j,m,t,_,_,_,_,_,_,_,_,_,_,_,a1,_⟩:=vc;have:=(ap.1 a1).1;omega⟩;obtain⟨lb,cap,hv,ya,vy⟩:=fG (by rw[hq] at ue;exact ue);rw[<-hq] at hv;subst hv;have yb:=zH ue;have yd:=zH vc;have HQ:=zH hQ;have we:=zH vx;have wg:=zH vy;have ye:=xo.out w3;clear ue vu vx vc hQ hq ya vy)
 clear ye;obtain⟨D,hD⟩:=zE w3.heap.size;obtain⟨A,ur⟩:=zE (w3.alloc (ua #[Z U 0,Z U 0,Z U 0,Z U 0] 113));rw[hD,ur];have uv:=iq ur;have wi:bh W2.heap.size W2 A:=we.out.trans (uv.mono we.out.size);have wj:A.heap[D]?=tB (ua #[Z U 0,Z U 0,Z U 0,Z U 0] 113 (0,0)):=by rw[<-ur,<-hD];exact alloc_at _ _
 have wk:xG A lb T:=λk t ht j u hu=>(uv.cell (p:=⟨lb,k*5+j,tD⟩) wg.out).trans (wm (f:=uL) (λ_=>rfl) yb.out ht hu);have wl:lb<A.heap.size:=bl wg.out uv.size;have yi:=zH (xT.out lb cap T d A wk wl yd.out);have vd:=zH wi;obtain⟨⟨c0,c1,c2,c3⟩,_,yq⟩:=mY wj;clear hD ur uv wi wj wk wl
 go_wp2_with (go_at_call 129;refine yi.out.mono ?_;rintro e w5 ⟨p,rfl,h1,h2,h3,h4,h5,h6,vf⟩;have HA:=zH (And.intro h1 (And.intro h2 (And.intro h3 (And.intro h4 h5))));have H6:=zH h6;have yr:=zH vf;have ux:=vd.out.trans (vf.mono vd.out.size);have ws:=zH ux;have vh:=(ux.block N (by rw[uc.out];omega)).trans xt.out;have vi:=(ux.block (N+1) (by rw[uc.out];omega)).trans xF.out;have yk:=zH vh;have yp:=zH vi;obtain⟨⟨b0,b1⟩,⟨d0,d1⟩,yv⟩:=cB vh;obtain⟨⟨e0,e1,yy,e3⟩,⟨f0,f1,f2,f3⟩,yW⟩:=mY vi;clear h1 h2 h3 h4 h5 h6 vf ux vh vi;unfold Pg.cells)
 (try simp only[db,Exit.then]);have wx:∀W u0 u1,Ext (·=N) W ((W.setCell ⟨N,0,tD⟩ u0).setCell ⟨N,1,tD⟩ u1):=λW u0 u1=>ah (ah (Ext.refl _ _) _) _;have xf:∀W u0 u1 u2 u3,Ext (·=N+1) W ((((W.setCell ⟨N+1,0,tD⟩ u0).setCell ⟨N+1,1,tD⟩ u1).setCell ⟨N+1,2,tD⟩ u2).setCell ⟨N+1,3,tD⟩ u3):=λW u0 u1 u2 u3=>ah (ah (ah (ah (Ext.refl _ _) _) _) _) _;refine dv (dB rfl _ _ N (N+1) 179 113 _ _ (0,0) (0,0) _ _ rfl ((xf _ _ _ _ _).heap (bv yk.out) (show¬N=N+1 by omega)) rfl (jd ((wx _ _ _).heap yp.out (show¬N+1=N by omega))) underlying179 (by kernel_rfl) ph (by kernel_rfl)) rfl ?_;have vj:Ext (λq=>q=N\/q=N+1) w5 _:=((wx w5 (tP (tB ⟨p.pA,0,tD⟩) 1 p.pC) (tP (tB ⟨p.qA,0,tD⟩) 1 p.qC)).mono (λq h=> .inl h)).trans (xf _ (Z U 0) (Z U 0) (Z U 0) (Z U 0)) (λq h=> .inl (.inr h));have zc:N+2<=A.heap.size:=by rw[<-uc.out];exact vd.out.size
 have va:∀{e:gx}{size n:bx}{v:cd}{xs:bm cd},w5.ownsRow A.heap.size e size v n xs->_:=λ{e size n v xs} h=>aU (af (e:=e) (size:=size) (n:=n) (v:=v) (xs:=xs) h vj (λq hq e=>by have:=(au h hq).1;omega)) (show w.heap.size<=A.heap.size by omega);refine⟨d,HQ.out,p,rfl,HA.out.1,HA.out.2.1,HA.out.2.2.1,HA.out.2.2.2.1,HA.out.2.2.2.2,⟨va H6.out.fields,va H6.out.strs,va H6.out.stmts,λs hs=>((H6.out.exprs s hs).ext vj (λq h1 _=>by omega)).mono (by omega),va H6.out.fns⟩, ?_⟩;rw[J];exact xr.out.trans ((ws.out.mono (by rw[uc.out];omega)).trans (vj.below (cY (by rw[uc.out];omega) ws.out.size) (λq h=>by omega)))
structure jA (p:Pg)(L:bx)(w:World):Prop where
 lo:L<=w.heap.size
 pA:p.pA<L
 s:∀j u,p.stc[j]?=tB u->w.cell? ⟨p.pA,j,tD⟩=tB u
 qA:p.qA<L
 f:∀j u,p.fnc[j]?=tB u->w.cell? ⟨p.qA,j,tD⟩=tB u
 fd:aK Fd.cells 5 w L p.fA p.fs
 st:aK Sm.cells 9 w L p.bA p.ss
 ex:∀x∈p.ss,(x.es=[]/\x.E= tP tD 0 0)\/∃g cap,x.E= tP (tB ⟨g,0,tD⟩) x.es.length cap/\g<L/\∀(k:bx)(e:Ex),x.es[k]?=tB e->∀(j:bx)(u:cd),e.cells.toList[j]?=tB u->w.cell? ⟨g,k*7+j,tD⟩=tB u
 lfs:p.fs.length<=1000000
 lss:p.ss.length<=1000000
 cb:p.ss.length<=p.bC
theorem jA.ext {p:Pg}{L:bx}{w w':World}{M:bx->Prop}(h:jA p L w)(hx:Ext M w w')(hM:∀k,k<L->¬M k):jA p L w':=by
 have A:∀b o,b<L->w'.cell? ⟨b,o,tD⟩=w.cell? ⟨b,o,tD⟩:=λb o hb=>hx.cell (a:=⟨b,o,tD⟩) (bl hb h.lo) (hM b hb);refine⟨cY h.lo hx.size,h.pA,λj u d=>by rw[A _ _ h.pA];exact h.s j u d,h.qA,λj u d=>by rw[A _ _ h.qA];exact h.f j u d,λG=> ?_,λG=> ?_,λx uc=> ?_,h.lfs,h.lss,h.cb⟩
 ·obtain⟨b,J,v,q,D⟩:=h.fd G
  exact⟨b,J,v,q,λi x hi k u d=>by rw[A _ _ q];exact D i x hi k u d⟩
 ·obtain⟨b,J,v,q,D⟩:=h.st G
  exact⟨b,J,v,q,λi x hi k u d=>by rw[A _ _ q];exact D i x hi k u d⟩
 ·rcases h.ex x uc with v|⟨g,cap,v,q,D⟩
  ·exact .inl v
  ·exact .inr ⟨g,cap,v,q,λk e he j u d=>by rw[A _ _ q];exact D k e he j u d⟩
theorem jA.grow {p:Pg}{L:bx}{w w':World}(h:jA p L w)(d:bh w.heap.size w w'):jA p L w':=h.ext (Ext.of_below_size (M:=λ_=>mb) d) (λ_ _ h=>h)
theorem eD {α:Type}{cells:α->da cd}{m base n:bx}(A:∀x,(cells x).toList.length=m){w:World}{e:gx}{d:eA Addr}{c:bx}{l:bm α}(h:w.ownsRow base e m (tP d n c) n (l.flatMap λx=>(cells x).toList))(hn:n=l.length):aK cells m w w.heap.size d l:=by
 intro D;obtain⟨q,G⟩:∃q,n=q+1:=⟨n-1,by have:=rx.2 D;omega⟩
 subst G;obtain⟨g,c',v,_,J⟩:=fG h;simp only[gj] at v;obtain⟨rfl,_,rfl⟩:=v;exact⟨g,0,rfl,J,λi x hi k u hu=>by rw[cV];exact wm (f:=λx=>(cells x).toList) A h hi hu⟩
theorem xK {w:World}{base n m c:bx}{e:gx}{f:eA Addr}{xs:bm cd}(h:w.ownsRow base e m (tP f n c) n xs):n<=c:=by
 rcases h.2 with⟨d,q⟩|⟨g,cap,cur,d,_,_,u,_⟩
 ·omega
 ·simp only[gj] at d
  omega
theorem Cr {p:Pg}{B:bx}{w:World}(h:p.inn B w)(G:p.fs.length<=1000000)(J:p.ss.length<=1000000):jA p w.heap.size w:=by
 obtain⟨g1,c1,v,_,uc⟩:=fG h.strs;obtain⟨g2,c2,A,_,ud⟩:=fG h.fns;simp only[gj,dt,eW] at v A;obtain⟨⟨rfl,_⟩,_,rfl⟩:=v;obtain⟨⟨rfl,_⟩,_,rfl⟩:=A;refine⟨ce _,uc,λj u d=> ?_,ud,λj u d=> ?_,eD (cells:=Fd.cells) (m:=5) (λ_=>rfl) h.fields rfl,eD (cells:=Sm.cells) (m:=9) (λ_=>rfl) h.stmts rfl,λx hx=> ?_,G,J,xK h.stmts⟩
 ·have:=h.strs.cells (g:=p.pA) rfl j u d
  rwa [dc,cV] at this
 ·have:=h.fns.cells (g:=p.qA) rfl j u d
  rwa [dc,cV] at this
 ·rcases h.exprs x hx with q|⟨g,cap,q,h2,D⟩
  ·exact .inl q
  ·refine .inr ⟨g,cap,q,ae D,λk e he j u d=> ?_⟩
   rw[cc _ _ _ _ _ _ D];have:=xI (f:=IP) (m:=7) (λ_=>rfl) x.es k j e u he d;simpa using this
structure Ck (c:bx)(p:Pg)(L:bx)(f0 f1 f2 f3 f4 f5 f6:cd)(sA:eA Addr)(sC:bx)(S:bm Fd)(w:World):Prop where
 row:w.heap[c]?=tB (ua #[tP (tB ⟨p.pA,0,tD⟩) 1 p.pC,tP (tB ⟨p.qA,0,tD⟩) 1 p.qC,f0,f1,f2,f3,f4,f5,f6,tP sA S.length sC,Z U 0,Z U 0,Z U 0,Z U 0,Z U 0] 275 (0,0))
 pg:jA p L w
 hc:L<=c
 seen:aK Fd.cells 5 w w.heap.size sA S
 ls:S.length<=1000000
 nc:∀a,S≠[]->sA=tB a->a.block≠c
section
variable {c:bx}{p:Pg}{L:bx}{f0 f1 f2 f3 f4 f5 f6:cd}{sA:eA Addr}{sC:bx}{S:bm Fd}{w w':World}
theorem Ck.grow (h:Ck c p L f0 f1 f2 f3 f4 f5 f6 sA sC S w)(d:bh w.heap.size w w'):Ck c p L f0 f1 f2 f3 f4 f5 f6 sA sC S w':=
 ⟨(d.block c (ae h.row)).trans h.row,h.pg.grow d,h.hc,aK.grow h.seen d,h.ls,h.nc⟩
end
theorem dF {c:bx}{p:Pg}{L:bx}{f0 f1 f2 f3 f4 f5 f6:cd}{sA:eA Addr}{sC:bx}{S:bm Fd}(w:World)(h:Ck c p L f0 f1 f2 f3 f4 f5 f6 sA sC S w):
  zS 178 #[tR (tB ⟨c,0,tD⟩)] w (tU tG):=by
 have c1:=(rowAt h.row 11 rfl).1;have d:=ae h.row;clear h;go_enter func178,ntmps178;go_wp2;go_ret;exact⟨rfl,rfl⟩
theorem bX {c:bx}{p:Pg}{L:bx}{f0 f1 f2 f3 f4 f5 f6:cd}{sA:eA Addr}{sC:bx}{S:bm Fd}(f a b:bp)(w:World)(h:Ck c p L f0 f1 f2 f3 f4 f5 f6 sA sC S w):
  zP 176 #[tR (tB ⟨c,0,tD⟩),tU tE,Z U f,tW #[Z U a,Z U b]] w (tU tE):=by
 obtain⟨u,d⟩:=zE (w.alloc (ua #[Z U a,Z U b] 40));have q:=iq d;have v:=zH (dF u (h.grow q));have A:=zH d;have D:=zH q;clear h d q;go_enter func176,ntmps176
 go_wp2_with (go_at_call 178;(try rw[A.out]);refine v.out.mono ?_;rintro e u ⟨rfl,rfl⟩)
 go_ret;exact⟨rfl,D.out⟩
def ow (p:Pg)(nm:aE):bp:=if p.snm==nm then 0 else-1
def Ef (p:Pg)(nm:aE):bp:=if p.nm==nm then 0 else-1
theorem gJ {p:Pg}{L:bx}(nm:aE)(w:World)(h:jA p L w):
  zP 212 #[tW p.cells,tM nm] w (Z U (ow p nm)):=by
 obtain⟨N,f⟩:=zE w.heap.size;unfold Pg.cells;obtain⟨J,d⟩:=zE (w.alloc (ua #[tP (tB ⟨p.pA,0,tD⟩) 1 p.pC,tP (tB ⟨p.qA,0,tD⟩) 1 p.qC] 179));have q:=iV d f;have v:J.heap[N]?=tB (ua #[tP (tB ⟨p.pA,0,tD⟩) 1 p.pC,tP (tB ⟨p.qA,0,tD⟩) 1 p.qC] 179 (0,0)):=by rw[<-d,<-f];exact alloc_at _ _
 obtain⟨⟨c0,c1⟩,_,ud⟩:=cB v;have A:=h.grow (by rw[f];exact q);have k0:=A.s 0 _ rfl;obtain⟨b,u⟩:=zE (p.snm==nm);have ue:(p.snm.toList==nm.toList)=b:=by rw[<-fY];exact u
 have D:cm (ow p nm=if b=tE then 0 else-1):=by unfold cm ow;rw[u]
 rw[D.out];have uc:=zH d;have G:=zH q;clear h d q v A u D;go_enter func212,ntmps212;go_wp2;rw[uc.out];cases b with
 |true=>
  go_loop [5] (λk=>k= Z U 0) (λ_=>0)
  case atStart=>rfl
  case round=>
   obtain rfl:=hrel;go_wp2;go_ret;exact⟨rfl,G.out⟩
 |false=>
  go_loop [5] (λk=>k= Z U 0\/k= Z U 1) (λk=>1-(intOf k).toNat)
  case atStart=>exact .inl rfl
  case round=>
   rcases hrel with rfl|rfl
   ·go_wp2
    go_round
    case rel=>exact .inr rfl
    case measure=>simp[intOf]
   ·go_wp2
    go_ret;exact⟨rfl,G.out⟩
theorem oz {p:Pg}{L:bx}(nm:aE)(w:World)(h:jA p L w):
  zP 177 #[tW p.cells,tM nm] w (Z U (Ef p nm)):=by
 obtain⟨N,q⟩:=zE w.heap.size;unfold Pg.cells;obtain⟨W1,d⟩:=zE (w.alloc (ua #[tP (tB ⟨p.pA,0,tD⟩) 1 p.pC,tP (tB ⟨p.qA,0,tD⟩) 1 p.qC] 179));have u:=iV d q;have A:W1.heap[N]?=tB (ua #[tP (tB ⟨p.pA,0,tD⟩) 1 p.pC,tP (tB ⟨p.qA,0,tD⟩) 1 p.qC] 179 (0,0)):=by rw[<-d,<-q];exact alloc_at _ _
 obtain⟨⟨c0,c1⟩,_,ud⟩:=cB A;have D:=h.grow (by rw[q];exact u);have k0:=D.f 0 _ rfl;obtain⟨b,v⟩:=zE (p.nm==nm);have ue:(p.nm.toList==nm.toList)=b:=by rw[<-fY];exact v
 have G:cm (Ef p nm=if b=tE then 0 else-1):=by unfold cm Ef;rw[v]
 rw[G.out];have uc:=zH d;have J:=zH u;clear h d u A D v G;go_enter func177,ntmps177;go_wp2;rw[uc.out];cases b with
 |true=>
  go_loop [5] (λk=>k= Z U 0) (λ_=>0)
  case atStart=>rfl
  case round=>
   obtain rfl:=hrel;go_wp2;go_ret;exact⟨rfl,J.out⟩
 |false=>
  go_loop [5] (λk=>k= Z U 0\/k= Z U 1) (λk=>1-(intOf k).toNat)
  case atStart=>exact .inl rfl
  case round=>
   rcases hrel with rfl|rfl
   ·go_wp2
    go_round
    case rel=>exact .inr rfl
    case measure=>simp[intOf]
   ·go_wp2
    go_ret;exact⟨rfl,J.out⟩
theorem Eg (a b:nj)(s t:aE)(w:World):(gE 10000 32 (tW #[tU a,tM s]) (tW #[tU b,tM t])).run ac w= .ok (((a,s):Ty)==(b,t)) w:=by
 have d:ac.underlying 32=tB (.struct (ac.fieldsOf 32)):=by kernel_rfl
 have f:ac.stoodInHeld 32=tG:=by kernel_rfl
 rw[show(10000:bx)=9999+1 from rfl,run_equalIn_agg w 9999 32 _ _ d f];simp only[Program.fieldsOf,ey];have e:(((a,s):Ty)==(b,t))=(a==b&&s.toList==t.toList):=by rw[<-fY];rfl
 rw[e];go_simp
 by_cases h:a=b<;>by_cases q:s.toList=t.toList<;>simp[h,q]
theorem qE (a:nj)(s:aE)(w:World):zP 266 #[tW #[tU a,tM s],tW #[tU a,tM s]] w (tU tE):=by
 have h:∀w,(gE 10000 32 (tW #[tU a,tM s]) (tW #[tU a,tM s])).run ac w= .ok tE w:=λw=>by rw[Eg];simp
 have q:ac.eqGuardType ac.depth 32=tG:=by kernel_rfl
 have d:bh w.heap.size w ((w.alloc (ua #[tU a,tM s] 32)).alloc (ua #[tU a,tM s] 32)):=((aq _ _).alloc (ce _) _).alloc (by simp) _;have f:=zH d;clear d;go_enter func266,ntmps266;go_wp2;go_ret;exact⟨rfl,f.out⟩
theorem qF {c:bx}{p:Pg}{L:bx}{f0 f1 f2 f3 f4 f5 f6:cd}{sA:eA Addr}{sC:bx}{S:bm Fd}(nm:aE)(w:World)(h:Ck c p L f0 f1 f2 f3 f4 f5 f6 sA sC S w)(hk:p.snm=nm):
  zP 213 #[tR (tB ⟨c,0,tD⟩),tW #[tU tE,tM nm]] w (tU tE):=by
 obtain⟨N,f⟩:=zE w.heap.size;obtain⟨d,u⟩:=zE (w.alloc (ua #[tU tE,tM nm] 32));have D:=iV u f;have v:d.heap[N]?=tB (ua #[tU tE,tM nm] 32 (0,0)):=by rw[<-u,<-f];exact alloc_at _ _
 have G:=ae v;have A:=h.grow (by rw[f];exact D);have t0:∀q:BW d,q.w.cell? ⟨N,0,tD⟩=tB (tU tE):=λq=>(rowAt ((q.h.block N G).trans v) 0 rfl).1;have t1:∀q:BW d,q.w.cell? ⟨N,1,tD⟩=tB (tM nm):=λq=>(rowAt ((q.h.block N G).trans v) 1 rfl).1;have c0:∀q:BW d,q.w.cell? ⟨c,0,tD⟩=tB (tP (tB ⟨p.pA,0,tD⟩) 1 p.pC):=λq=>(rowAt (A.grow q.h).row 0 rfl).1;have c1:∀q:BW d,q.w.cell? ⟨c,1,tD⟩=tB (tP (tB ⟨p.qA,0,tD⟩) 1 p.qC):=λq=>(rowAt (A.grow q.h).row 1 rfl).1;have J:∀q:BW d,zP 212 #[tW p.cells,tM nm] q.w (Z U 0):=λq=>by
  have:=gJ nm q.w (A.grow q.h).pg;unfold ow at this;rw[hk,rr] at this;exact this
 unfold Pg.cells at J;have uc:=zH J;have ud:=zH u;have ue:=zH D;clear h hk u D v A J;go_enter func213,ntmps213
 go_upto_region 1 with(fail)
 rw[ud.out];refine zQ ?_
 repeat (go_big_quiet_step ((go_at_call 212;exact aW (uc.out _))))
 refine eh ?_;rintro _ ⟨q,rfl⟩;go_wp2;go_ret;exact⟨rfl,by(try rw[f]);exact ue.out.trans (q.h.mono (pm G))⟩
theorem ze {c:bx}{p:Pg}{L:bx}{f0 f1 f2 f3 f4 f5 f6:cd}{sA:eA Addr}{sC:bx}{S:bm Fd}(nm:aE)(w:World)(_:Ck c p L f0 f1 f2 f3 f4 f5 f6 sA sC S w):
  zP 213 #[tR (tB ⟨c,0,tD⟩),tW #[tU tG,tM nm]] w (tU tE):=by
 obtain⟨N,f⟩:=zE w.heap.size;obtain⟨v,d⟩:=zE (w.alloc (ua #[tU tG,tM nm] 32));have A:=iV d f;have u:v.heap[N]?=tB (ua #[tU tG,tM nm] 32 (0,0)):=by rw[<-d,<-f];exact alloc_at _ _
 have D:=ae u;have t0:∀q:BW v,q.w.cell? ⟨N,0,tD⟩=tB (tU tG):=λq=>(rowAt ((q.h.block N D).trans u) 0 rfl).1;have G:=zH d;have J:=zH A;clear d A u;go_enter func213,ntmps213
 go_upto_region 1 with(fail)
 rw[G.out];refine zQ ?_
 repeat (go_big_quiet_step (fail))
 refine eh ?_;rintro _ ⟨q,rfl⟩;go_wp2;go_ret;exact⟨rfl,by(try rw[f]);exact J.out.trans (q.h.mono (pm D))⟩
def kg (S:bm Fd)(nm:aE):eA Fd:=S.find? λf=>f.nm==nm
def Eh:eA Fd->Ty
 |some f=>f.ty
 |none=>bI
def pY (S:bm Fd)(nm:aE):Ty:=Eh (kg S nm)
theorem kK {c:bx}{p:Pg}{L:bx}{f0 f1 f2 f3 f4 f5 f6:cd}{sA:eA Addr}{sC:bx}{S:bm Fd}(nm:aE)(w:World)(h:Ck c p L f0 f1 f2 f3 f4 f5 f6 sA sC S w):
  zP 214 #[tR (tB ⟨c,0,tD⟩),tM nm] w (.tuple #[tW #[tU (pY S nm).1,tM (pY S nm).2],tU (kg S nm).isSome]):=by
 obtain⟨N,v⟩:=zE w.heap.size;obtain⟨W1,uc⟩:=zE (w.alloc (ua #[tU tG,tM ⟨#[]⟩] 32));have ud:=iV uc v;have ue:W1.heap[N]?=tB (ua #[tU tG,tM ⟨#[]⟩] 32 (0,0)):=by rw[<-uc,<-v];exact alloc_at _ _
 have A:=h.grow (by rw[v];exact ud);have c9:W1.cell? ⟨c,9,tD⟩=tB (tP sA S.length sC):=(rowAt A.row 9 rfl).1;have vj:=ae A.row;obtain⟨⟨t0,t1⟩,⟨q0,q1⟩,vm⟩:=cB ue;have vd:=zH A.seen;have vp:=A.ls;obtain⟨R,hR⟩:=zE (kg S nm);obtain⟨Y,hY⟩:=zE (pY S nm);have ux:Eh R=Y:=by rw[<-hY,<-hR];rfl
 rw[hR,hY];have HR:=zH hR;have D:=zH ux;have vf:=zH uc;have va:=zH ud;have vc:=zH ue;clear h uc ud ue A hR hY ux;go_enter func214,ntmps214;go_wp2;rw[vf.out]
 go_loop [6] (λk=>∃j:bx,k= Z U (j:bp)/\j<=S.length/\kg (S.drop j) nm=R) (λk=>S.length-(intOf k).toNat)
 case atStart=>exact⟨0,rfl,cN _,HR.out⟩
 case round=>
  obtain⟨j,rfl,hj,f⟩:=hrel
  by_cases u:j<S.length
  ·have vq:(j:bp)<(S.length:bp):=by omega
   obtain⟨x,q⟩:∃x,S[j]?=tB x:=⟨_,am u⟩
   have ur:S.drop j=x::S.drop (j+1):=by
    rw[eR u];have:S[j]=x:=by rw[am u] at q;exact cD q
    rw[this]
   rw[ur] at f;unfold kg at f;obtain⟨b,vr,hA,vu,G⟩:=vd.out (by intro e;rw[e] at u;simp at u);have k0:=G j x q 0 _ rfl;have k1:=G j x q 1 _ rfl;have k2:=G j x q 2 _ rfl;rw[mx] at k0;rw[hA] at c9;obtain⟨d,J⟩:=zE (x.nm==nm);have vx:(x.nm.toList==nm.toList)=d:=by rw[<-fY];exact J
   cases d with
   |true=>
    rw[List.find?_cons_of_pos (by exact J)] at f;subst f;have uv:cm (x.ty=Y):=D.out;clear HR D q ur G hA J;go_wp2;(try simp only[db,Exit.then]);refine dv (aM rfl _ _ N 32 _ (0,0) _ rfl (bv vc.out) ey (by kernel_rfl)) rfl ?_;rw[<-uv.out];(try rw[v]);exact⟨rfl,(va.out.setCell (by show N<=N;omega) _).setCell (by show N<=N;omega) _⟩
   |false=>
    rw[List.find?_cons_of_neg (by rw[J];simp)] at f;have HZ:cm (∃j':bx,eE .i64 ((j:bp)+1)= Z U (j':bp)/\j'<=S.length/\kg (S.drop j') nm=R):=⟨j+1,by simp,u,f⟩
    clear HR D q ur G hA J f;go_wp2
    go_round
    case rel=>exact HZ.out
    case measure=>simp[intOf];omega
  ·have vh:j=S.length:=by omega
   subst vh;rw[qs] at f;unfold kg at f;have vi:(tD:eA Fd)=R:=f;subst vi;have uv:cm (bI=Y):=D.out;clear HR D f;go_wp2;(try simp only[db,Exit.then]);refine dv (aM rfl _ _ N 32 _ (0,0) _ rfl (bv vc.out) ey (by kernel_rfl)) rfl ?_;rw[<-uv.out];(try rw[v]);exact⟨rfl,(va.out.setCell (by show N<=N;omega) _).setCell (by show N<=N;omega) _⟩
theorem Bd {c:bx}{p:Pg}{L:bx}{f0 f1 f2 f3 f4 f5 f6:cd}{sA:eA Addr}{sC:bx}{S:bm Fd}(n:bp)(nm:aE)(A D:bp)(w:World)(h:Ck c p L f0 f1 f2 f3 f4 f5 f6 sA sC S w):
  zP 265 #[tR (tB ⟨c,0,tD⟩),tW #[Z U 1,Z U n,tM nm,tM ⟨#[]⟩,tP tD 0 0,Z U A,Z U D]] w (tW #[tU tG,tM ⟨#[]⟩]):=by
 obtain⟨N,f⟩:=zE w.heap.size;obtain⟨d,u⟩:=zE ((w.alloc (ua #[Z U 1,Z U n,tM nm,tM ⟨#[]⟩,tP tD 0 0,Z U A,Z U D] 313)).alloc (ua #[tU tG,tM ⟨#[]⟩] 32));obtain⟨v,q⟩:=zE (d.alloc (ua #[tU tG,tM ⟨#[]⟩] 32));have G:=uF u f;have J:d.heap.size=N+2:=by rw[<-u];simp[f]
 have uc:bh N w v:=by rw[<-q];exact G.alloc (by omega) _
 have ud:v.heap.size=N+3:=by rw[<-q];simp[J]
 have ue:v.heap[N]?=tB (ua #[Z U 1,Z U n,tM nm,tM ⟨#[]⟩,tP tD 0 0,Z U A,Z U D] 313 (0,0)):=by
  rw[<-q];refine(cn _ _ N (by omega)).trans ?_;rw[<-u,<-f];exact ia _ _ _
 have ur:v.heap[N+1]?=tB (ua #[tU tG,tM ⟨#[]⟩] 32 (0,0)):=by
  rw[<-q];refine(cn _ _ (N+1) (by omega)).trans ?_;rw[<-u,<-f];exact lx _ _ _
 have uv:v.heap[N+2]?=tB (ua #[tU tG,tM ⟨#[]⟩] 32 (0,0)):=by rw[<-q,<-J];exact alloc_at _ _
 have h2:=h.grow (by rw[f];exact G);have h3:=h.grow (by rw[f];exact uc);have va:=zH (dF d h2);have hst:∀(c:da cd),c.size=2->(dr ⟨d.heap.size,0,tD⟩ [tU tG,tM ⟨#[]⟩] 0).run ac (d.alloc (ua c 32))= .ok () (d.alloc (ua #[tU tG,tM ⟨#[]⟩] 32)):=λc hc=>
  ct (P:=ac) d 32 c #[tU tG,tM ⟨#[]⟩] (by show _=tB 2;kernel_rfl) hc (by simp[cj])
 have vc:=zH hst;have vd:=zH u;have vf:=zH q;have vh:=zH uc;have vp:=zH ud;have vi:=zH ue;have ux:=zH ur;have vj:=zH uv;clear h u q G uc ud ue ur uv h2 h3 hst;go_enter func265,ntmps265
 go_upto_region 3 with(go_at_call 178;rw[vd.out];refine va.out.mono ?_;rintro e d ⟨rfl,rfl⟩)
 have vm:=vc.out
 go_upto_region 4 with(fail)
 rw[vf.out];(try simp only[J]);clear vm;obtain⟨⟨a0,a1,a2,a3,a4,a5,a6⟩,_,vq⟩:=dY vi.out;obtain⟨⟨b0,b1⟩,⟨d0,d1⟩,vr⟩:=cB ux.out;obtain⟨⟨e0,e1⟩,_,vu⟩:=cB vj.out;go_wp2;(try simp only[db,Exit.then]);refine dv (eI (P:=ac) rfl _ _ (N+1) 32 _ (0,0) _ rfl (bv ux.out) ey rfl (by kernel_rfl)) rfl ?_;(try rw[f]);exact⟨rfl,(vh.out.setCell (by show N<=N+1;omega) _).setCell (by show N<=N+1;omega) _⟩
theorem Be {c:bx}{p:Pg}{L:bx}{f0 f1 f2 f3 f4 f5 f6:cd}{sA:eA Addr}{sC:bx}{S:bm Fd}(n:bp)(nm:aE)(D J:bp)(w:World)(h:Ck c p L f0 f1 f2 f3 f4 f5 f6 sA sC S w){d:Fd}(hl:kg S nm=tB d):
  zP 265 #[tR (tB ⟨c,0,tD⟩),tW #[Z U 2,Z U n,tM nm,tM ⟨#[]⟩,tP tD 0 0,Z U D,Z U J]] w (tW #[tU d.ty.1,tM d.ty.2]):=by
 obtain⟨N,u⟩:=zE w.heap.size;obtain⟨q,A⟩:=zE ((w.alloc (ua #[Z U 2,Z U n,tM nm,tM ⟨#[]⟩,tP tD 0 0,Z U D,Z U J] 313)).alloc (ua #[tU tG,tM ⟨#[]⟩] 32));obtain⟨f,v⟩:=zE (q.alloc (ua #[tU tG,tM ⟨#[]⟩] 32));have ue:=uF A u;have ur:q.heap.size=N+2:=by rw[<-A];simp[u]
 have uv:bh N w f:=by rw[<-v];exact ue.alloc (by omega) _
 have vd:f.heap.size=N+3:=by rw[<-v];simp[ur]
 have vf:f.heap[N]?=tB (ua #[Z U 2,Z U n,tM nm,tM ⟨#[]⟩,tP tD 0 0,Z U D,Z U J] 313 (0,0)):=by
  rw[<-v];refine(cn _ _ N (by omega)).trans ?_;rw[<-A,<-u];exact ia _ _ _
 have vh:f.heap[N+1]?=tB (ua #[tU tG,tM ⟨#[]⟩] 32 (0,0)):=by
  rw[<-v];refine(cn _ _ (N+1) (by omega)).trans ?_;rw[<-A,<-u];exact lx _ _ _
 have vi:f.heap[N+2]?=tB (ua #[tU tG,tM ⟨#[]⟩] 32 (0,0)):=by rw[<-v,<-ur];exact alloc_at _ _
 have h2:=h.grow (by rw[u];exact ue);have h3:=h.grow (by rw[u];exact uv);have we:=zH (dF q h2);have hst:∀(c:da cd),c.size=2->(dr ⟨q.heap.size,0,tD⟩ [tU tG,tM ⟨#[]⟩] 0).run ac (q.alloc (ua c 32))= .ok () (q.alloc (ua #[tU tG,tM ⟨#[]⟩] 32)):=λc hc=>
  ct (P:=ac) q 32 c #[tU tG,tM ⟨#[]⟩] (by show _=tB 2;kernel_rfl) hc (by simp[cj])
 have wg:=zH hst;have wi:=zH A;have wj:=zH v;have wk:=zH uv;have wl:=zH vd;have vj:=zH vf;have vm:=zH vh;have ws:=zH vi;have wx:cm (∀W,bh f.heap.size f W->zP 176 #[tR (tB ⟨c,0,tD⟩),tU tE,Z U 5,tW #[Z U D,Z U J]] W (tU tE)):=λW hW=>bX 5 D J W (h3.grow hW);have xf:cm (zP 214 #[tR (tB ⟨c,0,tD⟩),tM nm] f (.tuple #[tW #[tU d.ty.1,tM d.ty.2],tU tE])):=by
  have:=kK nm f h3;unfold pY at this;rw[hl] at this;exact this
 have vp:∀(w:World)(c:da cd),c.size=2->(dr ⟨w.heap.size,0,tD⟩ [tU d.ty.1,tM d.ty.2] 0).run ac (w.alloc (ua c 32))= .ok () (w.alloc (ua #[tU d.ty.1,tM d.ty.2] 32)):=λw c hc=>
  ct (P:=ac) w 32 c #[tU d.ty.1,tM d.ty.2] (by show _=tB 2;kernel_rfl) hc (by simp[cj])
 have xj:=zH vp;clear h A v ue uv vd vf vh vi h2 h3 hst hl vp;go_enter func265,ntmps265
 go_upto_region 3 with(go_at_call 178;rw[wi.out];refine we.out.mono ?_;rintro e q ⟨rfl,rfl⟩)
 have xl:=wg.out
 go_upto_region 4 with(fail)
 rw[wj.out];(try simp only[ur]);clear xl;obtain⟨⟨a0,a1,a2,a3,a4,a5,a6⟩,_,xo⟩:=dY vj.out;obtain⟨⟨b0,b1⟩,⟨d0,d1⟩,xp⟩:=cB vm.out;obtain⟨⟨e0,e1⟩,_,yi⟩:=cB ws.out
 go_upto_region 7 with(go_at_call 214;refine xf.out.mono ?_;rintro e w4 ⟨rfl,vq⟩;have xr:=zH vq;have xt:=xj.out w4;clear vq)
 clear xt;obtain⟨G,hG⟩:=zE w4.heap.size;obtain⟨W5,uc⟩:=zE (w4.alloc (ua #[tU d.ty.1,tM d.ty.2] 32));rw[hG,uc];have ud:=zD uc xr;have ux:W5.heap[G]?=tB (ua #[tU d.ty.1,tM d.ty.2] 32 (0,0)):=by rw[<-uc,<-hG];exact alloc_at _ _
 have vr:=(ud.block N xo).trans vj.out;have vu:=zH ud;have xF:=zH ux;have xT:=zH (wx.out W5 ud);obtain⟨⟨x0,x1,x2,x3,x4,x5,x6⟩,_,_⟩:=dY vr;have ya:=ae ux;clear hG uc ud ux vr
 go_upto_region 8 with(go_at_call 176;refine xT.out.mono ?_;rintro e w6 ⟨rfl,va⟩;have vx:=zH (vu.out.trans (va.mono vu.out.size));have yb:=zH va;clear va)
 have vy:=(yb.out.block G ya).trans xF.out;have vc:=(vx.out.block (N+1) xp).trans vm.out;have yd:=zH vc;obtain⟨⟨y0,y1⟩,_,_⟩:=cB vy;obtain⟨⟨b0,b1⟩,⟨d0,d1⟩,yk⟩:=cB vc;have ye:cm (bh N w w6):=wk.out.trans (vx.out.mono (by rw[wl.out];omega));clear vy vc;go_wp2;(try simp only[db,Exit.then]);refine dv (eI (P:=ac) rfl _ _ (N+1) 32 _ (0,0) _ rfl (bv yd.out) ey rfl (by kernel_rfl)) rfl ?_;(try rw[u]);exact⟨rfl,(ye.out.setCell (by show N<=N+1;omega) _).setCell (by show N<=N+1;omega) _⟩
theorem Bf {c:bx}{p:Pg}{L:bx}{f0 f1 f2 f3 f4 f5 f6:cd}{sA:eA Addr}{sC:bx}{S:bm Fd}(n:bp)(nm:aE)(A D:bp)(w:World)(h:Ck c p L f0 f1 f2 f3 f4 f5 f6 sA sC S w)(hk:p.snm=nm):
  zP 265 #[tR (tB ⟨c,0,tD⟩),tW #[Z U 7,Z U n,tM nm,tM ⟨#[]⟩,tP tD 0 0,Z U A,Z U D]] w (tW #[tU tE,tM nm]):=by
 obtain⟨N,u⟩:=zE w.heap.size;obtain⟨f,G⟩:=zE ((w.alloc (ua #[Z U 7,Z U n,tM nm,tM ⟨#[]⟩,tP tD 0 0,Z U A,Z U D] 313)).alloc (ua #[tU tG,tM ⟨#[]⟩] 32));obtain⟨d,v⟩:=zE (f.alloc (ua #[tU tG,tM ⟨#[]⟩] 32));have ud:=uF G u;have ue:f.heap.size=N+2:=by rw[<-G];simp[u]
 have ur:bh N w d:=by rw[<-v];exact ud.alloc (by omega) _
 have vc:d.heap.size=N+3:=by rw[<-v];simp[ue]
 have vd:d.heap[N]?=tB (ua #[Z U 7,Z U n,tM nm,tM ⟨#[]⟩,tP tD 0 0,Z U A,Z U D] 313 (0,0)):=by
  rw[<-v];refine(cn _ _ N (by omega)).trans ?_;rw[<-G,<-u];exact ia _ _ _
 have vf:d.heap[N+1]?=tB (ua #[tU tG,tM ⟨#[]⟩] 32 (0,0)):=by
  rw[<-v];refine(cn _ _ (N+1) (by omega)).trans ?_;rw[<-G,<-u];exact lx _ _ _
 have vh:d.heap[N+2]?=tB (ua #[tU tG,tM ⟨#[]⟩] 32 (0,0)):=by rw[<-v,<-ue];exact alloc_at _ _
 have h2:=h.grow (by rw[u];exact ud);have J:=h.grow (by rw[u];exact ur);have vj:=zH (dF f h2);have hst:∀(c:da cd),c.size=2->(dr ⟨f.heap.size,0,tD⟩ [tU tG,tM ⟨#[]⟩] 0).run ac (f.alloc (ua c 32))= .ok () (f.alloc (ua #[tU tG,tM ⟨#[]⟩] 32)):=λc hc=>
  ct (P:=ac) f 32 c #[tU tG,tM ⟨#[]⟩] (by show _=tB 2;kernel_rfl) hc (by simp[cj])
 have vm:=zH hst;have vp:=zH G;have vq:=zH v;have vr:=zH ur;have vu:=zH vc;have uc:=zH vd;have vi:=zH vf;have vx:=zH vh;have vy:cm (∀q:BW d,zP 176 #[tR (tB ⟨c,0,tD⟩),tU tE,Z U 5,tW #[Z U A,Z U D]] q.w (tU tE)):=λq=>bX 5 A D q.w (J.grow q.h);have uv:∀q:BW d,zP 212 #[tW p.cells,tM nm] q.w (Z U 0):=λq=>by
  have:=gJ nm q.w (J.grow q.h).pg;unfold ow at this;rw[hk,rr] at this;exact this
 unfold Pg.cells at uv;have we:=zH uv;have c0:∀q:BW d,q.w.cell? ⟨c,0,tD⟩=tB (tP (tB ⟨p.pA,0,tD⟩) 1 p.pC):=λq=>(rowAt (J.grow q.h).row 0 rfl).1;have c1:∀q:BW d,q.w.cell? ⟨c,1,tD⟩=tB (tP (tB ⟨p.qA,0,tD⟩) 1 p.qC):=λq=>(rowAt (J.grow q.h).row 1 rfl).1;have C0:=zH c0;have C1:=zH c1;clear h G v ud ur vc vd vf vh h2 J hst hk uv c0 c1;go_enter func265,ntmps265
 go_upto_region 3 with(go_at_call 178;rw[vp.out];refine vj.out.mono ?_;rintro e f ⟨rfl,rfl⟩)
 have wg:=vm.out
 go_upto_region 4 with(fail)
 rw[vq.out];(try simp only[ue]);clear wg;obtain⟨⟨a0,a1,a2,a3,a4,a5,a6⟩,_,ux⟩:=dY uc.out;obtain⟨⟨b0,b1⟩,⟨d0,d1⟩,wi⟩:=cB vi.out;obtain⟨⟨e0,e1⟩,_,wl⟩:=cB vx.out
 go_upto_region 26 with(fail)
 clear a0 a1 a2 a3 a4 a5 a6 b0 b1 d0 d1 e0 e1;have c0:=C0.out;have c1:=C1.out;have x2:∀q:BW d,q.w.cell? ⟨N,2,tD⟩=tB (tM nm):=λq=>(rowAt ((q.h.block N ux).trans uc.out) 2 rfl).1;have x5:∀q:BW d,q.w.cell? ⟨N,5,tD⟩=tB (Z U A):=λq=>(rowAt ((q.h.block N ux).trans uc.out) 5 rfl).1;have x6:∀q:BW d,q.w.cell? ⟨N,6,tD⟩=tB (Z U D):=λq=>(rowAt ((q.h.block N ux).trans uc.out) 6 rfl).1;refine zQ ?_
 repeat (go_big_quiet_step (first
  |(go_at_call 212;exact aW (we.out _))
  |(go_at_call 176;exact aW (vy.out _))))
 refine eh ?_;rintro _ ⟨q,rfl⟩;have z2:=x2 q;have va:=(q.h.block (N+1) wi).trans vi.out;have wj:=zH va;obtain⟨⟨b0,b1⟩,⟨d0,d1⟩,ws⟩:=cB va;have wk:cm (bh N w q.w):=vr.out.trans (q.h.mono (by rw[vu.out];omega));clear c0 c1 x2 x5 x6 va;go_wp2;(try simp only[db,Exit.then]);refine dv (eI (P:=ac) rfl _ _ (N+1) 32 _ (0,0) _ rfl (bv wj.out) ey rfl (by kernel_rfl)) rfl ?_;(try rw[u]);exact⟨rfl,(wk.out.setCell (by show N<=N+1;omega) _).setCell (by show N<=N+1;omega) _⟩
end Go.Proofs.YtjomgckjhcfbgaaGreat
