/- Walks. -/
import Derived.Test.YtjomgckjhcfbgaaGreatP2
set_option maxRecDepth 100000
set_option maxHeartbeats 64000000
set_option linter.all false
namespace Go.Proofs.YtjomgckjhcfbgaaGreat
open Go.RowKit
open Go.Proofs.Tryz renaming prog→am,underlying3→cX,underlying32→dT,underlying263→gC,underlying88→gR,underlying40→ms,underlying90→nx,underlying113→oy
open _root_.List renaming getElem?_eq_getElem→ap,length_append→bm,getElem?_eq_some_iff→bo,mem_append→dg,append_assoc→ei,map_append→et,flatMap_cons→fm,flatMap_append→fS,getElem?_append_right→gA,drop_eq_getElem_cons→ij,length_pos_iff→kq,getElem?_append_left→mz
open Go.RowKit.Below renaming refl→aq,heap_alloc→cE,heap_setCell→cT
open _root_ renaming Int→aw,Nat→bj,ByteArray→bl,List→bp,Option→cC,beq_eq_false_iff_ne→cN,Array→dl,beq_self_eq_true→kO,False→lj,Bool→ml,decide_eq_true_eq→oY,beq_iff_eq→sR
open Go.RowKit renaming Below→aE,Hid→cg,intOf→dp,ownsRow_setCell_below→ki
open Go renaming heap_setCell_same→bk,cell_of_row→bt,run_storeCells_new→cr,Value→cw,storeCells→dd,bodyPost_ret→dk,wpQuiet_nil→dr,maxLen→du,results_cell_row→er,Addr→fg,Calls→fj,beq_toListBytes→fx,TypeId→fX,heap_alloc2_new→im,run_underlying→i5,heap_alloc2_old→i8,info_parts→m6
open _root_.Nat renaming le_refl→cd,lt_of_lt_of_le→cD,zero_add→cI,zero_le→cM,le_trans→eN,add_zero→i7,le_of_lt→mA,succ_mul→rB
open Go.Value renaming oneCell'→cn,ownBlock→eL,int→eS,string→tm,slice→tn,pointer→tr,bool→tt,agg→tv,int→Z
open _root_.Option.some renaming inj→cy,injEq→dj
open Go.Exit renaming inBlock→cQ
open Go.Addr renaming add_lit→cU
open Go.Addr.mk renaming injEq→eV
open Go.Sem renaming run_bind→ft
open Go.Value.slice renaming injEq→fy
open Go.Op renaming equalIn→gt
open _root_.Option renaming map_eq_some_iff→gE,some→tf,none→th
open Go.Instr renaming field→m7
open _root_.Bool renaming true→ti,false→tj
open Go.Obj renaming cells→tA
open Go.Ending renaming returned→tB
open Go.IntKind renaming i64→U
open Tryz
def mi:bl:=⟨#[123]⟩
def ja:bl:=⟨#[125]⟩
inductive kW (T:bp Tok) (i:bj):qc->bj->Prop
 |ret (t z:Tok) (e:Ex) (k:bj):T[i]?=tf t->dD t qR=ti->eT T (i+1) e k->T[k]?=tf z->dD z dG=ti->kW T i ⟨8,bG,⟨#[]⟩,[e]⟩ (k+1)
 |free (t u x v z:Tok):T[i]?=tf t->dD t Ca=ti->T[i+1]?=tf u->dD u eQ=ti->T[i+2]?=tf x->x.kind=1->T[i+3]?=tf v->dD v nG=ti->T[i+4]?=tf z->dD z dG=ti->kW T i ⟨9,bG,x.text,[]⟩ (i+5)
 |decl (t u x v z:Tok) (e:Ex) (k:bj):T[i]?=tf t->t.kind=1->T[i+1]?=tf u->dD u jJ=ti->u.kind=4->T[i+2]?=tf x->x.kind=1->T[i+3]?=tf v->dD v Gx=ti->eT T (i+4) e k->T[k]?=tf z->dD z dG=ti->
   kW T i ⟨1,(ti,t.text),x.text,[e]⟩ (k+1)
theorem wP {r lb cap:bj}{T:bp Tok}{i k:bj}{K:qc}(d:aw)(w:World)(h:Rd r lb cap T i w)(R:kW T i K k):
  fj am 243 #[tr (tf ⟨r,0,th⟩),Z U d] w (iE r lb cap T w K k):=by
 cases R with
 |ret t z e k f g j o q=>exact AL d w h f g j o q
 |free t u x v z f g j o q y A E G J=>exact yF d w h f g j o q y A E G J
 |decl t u x v z e k f g j o q y A E G J W tD=>exact yG d w h f g j o q y A E G J W tD
theorem kW.first {T:bp Tok}{i k:bj}{j:qc}(h:kW T i j k):∃t,T[i]?=tf t/\dD t ja=tj/\i<k:=by
 cases h with
 |ret t z e k d f g o q=>exact⟨t,d,jK f (by decide),by have:=g.first;obtain⟨_,_,_,h⟩:=this;omega⟩
 |free t u x v z d f=>exact⟨t,d,jK f (by decide),by omega⟩
 |decl t u x v z e k d f g o q A E G J y=>exact⟨t,d,lH f,by have:=y.first;obtain⟨_,_,_,h⟩:=this;omega⟩
inductive iF (T:bp Tok):bj->bp qc->bj->Prop
 |nil (i:bj):iF T i [] i
 |cons (i j k:bj) (sh:qc) (l:bp qc):kW T i sh j->iF T j l k->iF T i (sh::l) k
theorem own_ne {w:World}{base:bj}{e t:fX}{size n k:bj}{v:cw}{xs:bp cw}{o:dl cw}{q:bj×bj}(h:w.ownsRow base e size v n xs)(u:w.heap[k]?=tf (tA o t q))(x:t≠e):¬v.ownBlock=tf k:=by
 intro d;rcases h.2 with⟨f,_⟩|⟨g,cap,z,f,_,j,_⟩
 ·rw[f] at d;cases d
 ·rw[f] at d
  have y:g=k:=by simpa[eL] using d
  subst y;rw[u] at j;simp only[dj,Obj.cells.injEq] at j;exact x j.2.1
theorem Sm.inn.own {B base n:bj}{w w':World}{s:Sm}{v:cw}{xs:bp cw}(h:s.inn B w)(e:w.ownsRow base 282 9 v n xs)(f:Ext (λk=>v.ownBlock=tf k) w w'):s.inn B w':=by
 rcases h with h|⟨g,cap,j,o,d⟩
 ·exact .inl h
 ·exact .inr ⟨g,cap,j,o,f.heap d (own_ne e d (by decide))⟩
def rJ (r:bj)(T:bp Tok)(w:World):bj:=match w.cell? ⟨r,1,th⟩ with
 |some (.int _ j)=>T.length-j.toNat
 |_=>0
theorem fG {r lb cap:bj}{T:bp Tok}{j:bj}{w:World}(h:Rd r lb cap T j w):rJ r T w=T.length-j:=by
 unfold rJ;rw[h.cells.2.1];simp
theorem iF.le {T:bp Tok}{i k:bj}{l:bp qc}(h:iF T i l k):i<=k:=by
 induction h with
 |nil=>exact cd _
 |cons i j k e l d _ ih=>obtain⟨_,_,_,h⟩:=d.first;omega
def Gy (s:Sm):bp cw:=s.cells.toList
theorem E8 (s:Sm)(d:cC fg)(e f:bj)(h:s.E= tn d e f):∀u∈s.cells.toList,u.oneCell'=ti:=by
 unfold Sm.cells;rw[h];simp[cn]
theorem CG:(am.info? 282).map (λi=>(i.zero,i.size,i.bytes))=tf (tf (tv #[Z U 0,tt tj,tm ⟨#[]⟩,tm ⟨#[]⟩,tn th 0 0,tn th 0 0,tn th 0 0,Z U 0,Z U 0]),9,136):=by kernel_rfl
def yH (r lb cap:bj)(T:bp Tok)(w:World)(f:bp qc)(k:bj)(e:Ending)(w':World):Prop:=
 ∃(v:cw) (d:bp Sm),e= tB v/\d.map Sm.shp=f/\w'.ownsRow w.heap.size 282 9 v d.length (d.flatMap Gy)/\(∀s∈d,s.inn w.heap.size w')/\bL r lb cap T k w w'
def Gd (r lb cap:bj)(T:bp Tok)(w:World)(e:bp qc)(k j:bj)(v:cw)(wr:World):Prop:=
 ∃(d:bp Sm) (l:bp qc),d.map Sm.shp++l=e/\iF T j l k/\wr.ownsRow w.heap.size 282 9 v d.length (d.flatMap Gy)/\(∀s∈d,s.inn w.heap.size wr)/\bL r lb cap T j w wr/\d.length<=j
theorem uk {r lb cap:bj}{T:bp Tok}{i k:bj}{t z:Tok}{tG:bp qc}(d:aw)(yk:0<=d)(hd:d<=100)(w:World)(h:Rd r lb cap T i w)(R:T[i]?=tf t)(ho:dD t mi=ti)(g:iF T (i+1) tG k)(hz:T[k]?=tf z)(hk:dD z ja=ti):
  fj am 210 #[tr (tf ⟨r,0,th⟩),Z U d] w (yH r lb cap T w tG (k+1)):=by
 have tP:=zH (bi mi w h R);rw[ho] at tP;unfold mi at tP;have vy:cg (∀W,aE w.heap.size w W->zS 242 #[tr (tf ⟨r,0,th⟩),Z U (d+1)] W (tt ti)):=λW f=>tZ (d+1) W (h.grow f) (by omega);have ue:cg (∀(j:bj)(t:Tok) W,T[j]?=tf t->Rd r lb cap T j W->zP 172 #[tr (tf ⟨r,0,th⟩),tm ⟨#[125]⟩] W (tt (dD t ja))):=λj t W R f=>bi ja W f R;have we:cg (∀(j:bj) W,Rd r lb cap T j W->zS 171 #[tr (tf ⟨r,0,th⟩)] W (tt tj)):=λj W f=>bB W f;have wg:cg (∀(j k:bj)(sh:qc) W,Rd r lb cap T j W->kW T j sh k->fj am 243 #[tr (tf ⟨r,0,th⟩),Z U (d+1)] W (iE r lb cap T W sh k)):=λj k sh W f g=>wP (d+1) W f g;have wj:cg (∀W,Rd r lb cap T k W->fj am 207 #[tr (tf ⟨r,0,th⟩),tm ⟨#[125]⟩] W λe w'=>e= tB (.tuple #[])/\bL r lb cap T (k+1) W w'):=λW f=>aY ja W f hz hk;have yp:i<T.length:=(bo.1 R).1;have hT:=h.short;have yq:=h.rlt;have yr:=h.lt;have H:=zH h;have HS:=zH g;have HZ:=zH hz;have HK:=zH hk;obtain⟨i0,wk,wl,ws,xf⟩:=m6 CG;clear h R ho g hz hk;go_enter func210,ntmps210
 go_upto_region 6 with(first
  |(go_at_call 172;refine tP.out.mono ?_;rintro e w2 ⟨rfl,up⟩;have tR:=zH up;clear up)
  |(go_at_call 242;refine(vy.out w2 tR.out).mono ?_;rintro e w3 ⟨rfl,rfl⟩))
 have h2:=H.out.grow tR.out;obtain⟨c0,c1,c3,f1,hr⟩:=h2.cells;have ur:bL r lb cap T (i+1) w (w2.setCell ⟨r,1,th⟩ (Z U ((i:aw)+1))):=⟨h2.step,(Ext.of_below_size (M:=(·=r)) tR.out).trans (Ext.set1 w2 r 1 _) (λk hk=> .inl hk)⟩
 have uv:=zH ur;clear h2 ur
 go_upto_region 7 with(fail)
 obtain⟨W0,tS⟩:=zE (w2.setCell ⟨r,1,th⟩ (Z U ((i:aw)+1)));rw[tS];rw[tS] at uv;clear tS c0 c1 c3 f1 hr
 go_loopw [5] (λv wr=>∃j:bj,Gd r lb cap T w tG k j v wr) (λ_ wr=>rJ r T wr)
 case atStart=>exact⟨i+1,[],tG,rfl,HS.out,World.ownsRow_nil _ _ _ _,by simp,uv.out,by simp⟩
 case round=>
  obtain⟨j,x,l,hl,ux,tU,tW,y,yv⟩:=hrel;have xj:=zH (fG y.1);have yy:j<=1000000:=by
   have:=ux.le;have:=(bo.1 HZ.out).1;omega
  have HL:=zH hl;have ua:=zH tU;have vc:=zH tW;have HM:=zH y;cases ux with
  |nil=>
   have tD:=zH (ue.out k z wr HZ.out y.1);rw[HK.out] at tD;clear hl tU tW y
   go_upto_region 9 with(go_at_call 172;refine tD.out.mono ?_;rintro e A ⟨rfl,tE⟩;have o:=zH tE;clear tE)
   have vd:=HM.out.grow o.out;have G:=zH vd;clear vd
   go_wp2_with (go_at_call 207;refine(wj.out A G.out.1).mono ?_;rintro e w5 ⟨rfl,u⟩;have J:=zH u;clear u)
   go_ret;refine⟨_,x,rfl,by rw[<-HL.out];simp, ?_, ?_,G.out.trans J.out⟩
   ·refine ah (ownsRow_below ua.out o.out) J.out.2 (λq hq=> ?_)
    have:=(ai ua.out hq).1;omega
   ·intro s g
    exact((vc.out s g).ext (Ext.of_below_size (M:=λ_=>lj) o.out) (λ_ _ _ h=>h)).ext J.out.2 (λq h1 _=>by omega)
  |cons _ j2 _ sh l2 ub uc=>
   obtain⟨t1,vf,vh,yW⟩:=ub.first
   have tD:=zH (ue.out j t1 wr vf y.1);rw[vh] at tD;have xl:=zH (we.out j);have xo:=zH (λW f=>wg.out j j2 sh W f ub);have xp:=zH uc;have zc:j2<=T.length:=eN uc.le (mA (bo.1 HZ.out).1);clear hl tU tW y ub uc vf vh
   go_upto_region 8 with(first
    |(go_at_call 172;refine tD.out.mono ?_;rintro e A ⟨rfl,tE⟩;have o:=zH tE;clear tE)
    |(go_at_call 171;refine(xl.out A (HM.out.1.grow o.out)).mono ?_;rintro e w5 ⟨rfl,rfl⟩))
   have vm:=zH (ownsRow_below ua.out o.out);have xr:cg (∀s∈x,s.inn w.heap.size A):=λs g=>(vc.out s g).ext (Ext.of_below_size (M:=λ_=>lj) o.out) (λ_ _ _ h=>h);have G:=zH (HM.out.grow o.out);have vp:w.heap.size<=A.heap.size:=G.out.2.size;have zd:x.length<=1000000:=by omega
   go_wp2_with (first
    |(go_at_call 243;refine(xo.out A G.out.1).mono ?_;rintro e w5 ⟨s,rfl,vq,ud,u⟩;obtain⟨xt,en,ec,hE⟩:=ud.slice;have vr:=zH (E8 s xt en ec hE);have K:=zH (ah vm.out u.2 (λq hq=>by have:=(ai vm.out hq).1;omega));have xF:cg (∀s∈x,s.inn w.heap.size w5):=(λs g=>(xr.out s g).ext u.2 (λq h1 _=>by omega));have xT:=zH (ud.mono vp);have J:=zH (G.out.trans u);have ya:=zH vq;have yb:w.heap.size<=w5.heap.size:=eN vp u.2.size;clear vq ud u hE;unfold Sm.cells at vr⊢)
    |(at_builtin;refine jw rfl (.tmp 34) (.tmp 39) 231 rfl w.heap.size 282 i0 _ 9 136 underlying231 wk wl ws xf rfl (by decide) _ x.length (x.flatMap Gy) rfl K.out w5.heap.size #[Z U s.kind,tt s.ty.1,tm s.ty.2,tm s.nm,s.E,tn th 0 0,tn th 0 0,Z U s.ln,Z U s.cl] rfl rfl rfl vr.out (by unfold du;omega) (by omega) yb ?_;intro v7 w7 vt tM yd;have ye:=zH vt;have vu:=zH tM;have vx:cg (bL r lb cap T j2 w w7):=(⟨J.out.1.ext tM (λh=>by have:=(ai K.out h).1;omega) (λh=>by have:=(ai K.out h).1;omega),J.out.2.trans tM (λq hq=> .inr (ai K.out hq).1)⟩:bL r lb cap T j2 w w7);clear vt tM yd))
   go_roundw
   case rel=>
    refine⟨j2,x++[s],l2, ?_,xp.out, ?_, ?_,vx.out,by rw[bm];simp;omega⟩
    ·rw[et,ei,<-HL.out,<-ya.out];rfl
    ·rw[fS,bm]
     exact ye.out
    ·intro s' yi
     rcases dg.1 yi with h|h
     ·exact(xF.out s' h).own K.out vu.out
     ·obtain rfl:s'=s:=by simpa using h
      exact xT.out.own K.out vu.out
   case measure=>
    rw[fG vx.out.1,xj.out];omega
theorem DZ (a:aw)(s:bl)(n d e:aw)(W:World):(m7 263 (tv #[Z U a,tm s,Z U n,Z U d,Z U e]) 3).run am W= .ok (tv #[Z U d,Z U e]) W:=by
 have f:=gC;have g:(am.info? 40).map (·.size)=tf 2:=by kernel_rfl
 have h:=ms;unfold m7;rw[ft,i5 f W];obtain⟨i,hi,j⟩:=gE.1 g;simp[asAgg,part,go_sem,isAgg,sizeOf,typeInfo,hi,j,ft,i5 h W]
theorem rM (a:aw)(s:bl)(n d e:aw)(W:World):(m7 263 (tv #[Z U a,tm s,Z U n,Z U d,Z U e]) 0).run am W= .ok (Z U a) W:=by
 have f:=gC;have g:=cX;unfold m7;rw[ft,i5 f W];simp[asAgg,part,go_sem,isAgg,ft,i5 g W]
def jA:bl:=⟨#[115,116,114,117,99,116]⟩
inductive gQ (T:bp Tok):bj->bp (bl×Ty)->bj->Prop
 |nil (i:bj):gQ T i [] i
 |cons (i j k:bj) (y:Ty) (x z:Tok) (l:bp (bl×Ty)):wK T i y j->T[j]?=tf x->x.kind=1->T[j+1]?=tf z->dD z dG=ti->gQ T (j+2) l k->gQ T i ((x.text,y)::l) k
theorem wK.first {T:bp Tok}{i k:bj}{y:Ty}(h:wK T i y k):∃t,T[i]?=tf t/\dD t ja=tj/\i<k:=by
 cases h with
 |int t d e=>exact⟨t,d,jK e (by decide),by omega⟩
 |ptr t u d e=>exact⟨t,d,lH e,by omega⟩
theorem gQ.le {T:bp Tok}{i k:bj}{l:bp (bl×Ty)}(h:gQ T i l k):i<=k:=by
 induction h with
 |nil=>exact cd _
 |cons i j k y x z l d _ _ _ _ _ ih=>obtain⟨_,_,_,h⟩:=d.first;omega
def Fd.shp (f:Fd):bl×Ty:=(f.nm,f.ty)
def tQ (f:Fd):bp cw:=f.cells.toList
theorem Cb:(am.info? 92).map (λi=>(i.zero,i.size,i.bytes))=tf (tf (tv #[tm ⟨#[]⟩,tt tj,tm ⟨#[]⟩,Z U 0,Z U 0]),5,56):=by kernel_rfl
def Cc (r lb cap:bj)(T:bp Tok)(w:World)(nm:bl)(l:bp (bl×Ty))(k:bj)(e:Ending)(w':World):Prop:=
 ∃(ao:cC fg) (c:bj) (fs:bp Fd) (d f:aw),e= tB (tv #[tm nm,tn ao fs.length c,Z U d,Z U f])/\fs.map Fd.shp=l/\w'.ownsRow w.heap.size 92 5 (tn ao fs.length c) fs.length (fs.flatMap tQ)/\bL r lb cap T k w w'
def Hd (r lb cap:bj)(T:bp Tok)(w:World)(nm:bl)(l:bp (bl×Ty))(e f:aw)(k B j:bj)(wr:World):Prop:=
 ∃(ao:cC fg) (c:bj) (fs:bp Fd) (d:bp (bl×Ty)),fs.map Fd.shp++d=l/\gQ T j d k/\wr.heap[B]?=tf (tA #[tm nm,tn ao fs.length c,Z U e,Z U f] 90 (0,0))/\
  wr.ownsRow (B+1) 92 5 (tn ao fs.length c) fs.length (fs.flatMap tQ)/\bL r lb cap T j w wr/\fs.length<=j/\wr.heap[w.heap.size]?=tf (tA #[tm ⟨#[]⟩,tn th 0 0,Z U 0,Z U 0] 90 (0,0))
theorem nH {r lb cap:bj}{T:bp Tok}{i k:bj}{t u x z z2:Tok}{l:bp (bl×Ty)}(w:World)(h:Rd r lb cap T i w)(R:T[i]?=tf t)(yp:dD t jA=ti)(hx:T[i+1]?=tf x)(yq:x.kind=1)(hu:T[i+2]?=tf u)(yr:dD u mi=ti)
  (hl:gQ T (i+3) l k)(hz:T[k]?=tf z)(g:dD z ja=ti)(yv:T[k+1]?=tf z2)(yy:dD z2 dG=ti):
  fj am 173 #[tr (tf ⟨r,0,th⟩)] w (Cc r lb cap T w x.text l (k+2)):=by
 obtain⟨N,o⟩:=zE w.heap.size;obtain⟨W1,tG⟩:=zE (w.alloc (tA #[tm ⟨#[]⟩,tn th 0 0,Z U 0,Z U 0] 90));have vm:=ik tG o;have yW:W1.heap.size=N+1:=by rw[<-tG];simp[o]
 have tM:W1.heap[N]?=tf (tA #[tm ⟨#[]⟩,tn th 0 0,Z U 0,Z U 0] 90 (0,0)):=by rw[<-tG,<-o];exact alloc_at _ _
 have h1:=h.grow (by rw[o];exact vm);have zc:=zH (bE W1 h1 R);have zd:cg (∀W,Rd r lb cap T i W->fj am 207 #[tr (tf ⟨r,0,th⟩),tm jA] W λe w'=>e= tB (.tuple #[])/\bL r lb cap T (i+1) W w'):=λW f=>aY jA W f R yp;have B8:cg (∀W,Rd r lb cap T (i+1) W->fj am 208 #[tr (tf ⟨r,0,th⟩)] W λe w'=>e= tB (.tuple #[tm x.text,tv #[Z U x.ln,Z U x.cl]])/\bL r lb cap T (i+2) W w'):=λW f=>dU W f hx yq;have zj:cg (∀W,Rd r lb cap T (i+2) W->fj am 207 #[tr (tf ⟨r,0,th⟩),tm mi] W λe w'=>e= tB (.tuple #[])/\bL r lb cap T (i+3) W w'):=λW f=>aY mi W f hu yr;have zp:cg (∀W,Rd r lb cap T k W->fj am 207 #[tr (tf ⟨r,0,th⟩),tm ja] W λe w'=>e= tB (.tuple #[])/\bL r lb cap T (k+1) W w'):=λW f=>aY ja W f hz g;have zr:cg (∀(j:bj)(z:Tok) W,T[j]?=tf z->dD z dG=ti->Rd r lb cap T j W->fj am 207 #[tr (tf ⟨r,0,th⟩),tm ⟨#[59]⟩] W λe w'=>e= tB (.tuple #[])/\bL r lb cap T (j+1) W w'):=λj z W hz g f=>aY dG W f hz g;have B9:=zH (λW=>zr.out (k+1) z2 W yv yy);have zs:cg (∀(j:bj)(t:Tok) W,T[j]?=tf t->Rd r lb cap T j W->zP 172 #[tr (tf ⟨r,0,th⟩),tm ⟨#[125]⟩] W (tt (dD t ja))):=λj t W R f=>bi ja W f R;have Cd:cg (∀(j:bj) W,Rd r lb cap T j W->zS 171 #[tr (tf ⟨r,0,th⟩)] W (tt tj)):=λj W f=>bB W f;have Cl:cg (∀(j k:bj)(y:Ty) W,wK T j y k->Rd r lb cap T j W->fj am 209 #[tr (tf ⟨r,0,th⟩)] W λe w'=>e= tB (tv #[tt y.1,tm y.2])/\bL r lb cap T k W w'):=λj k y W hy f=>qb W f hy;have Cp:cg (∀(j:bj)(x:Tok) W,T[j]?=tf x->x.kind=1->Rd r lb cap T j W->fj am 208 #[tr (tf ⟨r,0,th⟩)] W λe w'=>e= tB (.tuple #[tm x.text,tv #[Z U x.ln,Z U x.cl]])/\bL r lb cap T (j+1) W w'):=λj x W hx g f=>dU W f hx g;unfold jA at zd;unfold mi at zj;unfold ja at zp;simp only[Tok.cells] at zc;have hst:∀(w:World)(c:dl cw),c.size=4->(dd ⟨w.heap.size,0,th⟩ [tm ⟨#[]⟩,tn th 0 0,Z U t.ln,Z U t.cl] 0).run am (w.alloc (tA c 90))= .ok () (w.alloc (tA #[tm ⟨#[]⟩,tn th 0 0,Z U t.ln,Z U t.cl] 90)):=λw c hc=>
  cr (P:=am) w 90 c #[tm ⟨#[]⟩,tn th 0 0,Z U t.ln,Z U t.cl] (by show _=tf 4;kernel_rfl) hc (by simp[cn])
 have CA:=zH hst;have Fo:i<T.length:=(bo.1 R).1;have hT:=h.short;have Fr:r<N:=by rw[<-o];exact h.rlt
 have ua:cg (lb<N):=by unfold cg;rw[<-o];exact h.lt
 have CC:=zH tG;have CD:=zH vm;have zv:=zH yW;have CH:=zH tM;have H1:=zH h1;have CM:=zH hl;have HZ:=zH hz;have HK:=zH g;have HN:=zH o;obtain⟨i0,CN,CT,C4,C5⟩:=m6 Cb;clear h R yp hx yq hu yr hl hz g yv yy tG vm yW tM h1 hst;have C6:=λW=>DZ t.kind t.text t.n t.ln t.cl W;go_enter func173,ntmps173
 go_upto_region 2 with(go_at_call 170;rw[CC.out];refine zc.out.mono ?_;rintro e w2 ⟨rfl,An⟩;have C7:=CA.out w2;have At:=zH An;clear An)
 clear C7 C6;obtain⟨B,hB⟩:=zE w2.heap.size;obtain⟨W3,ub⟩:=zE (w2.alloc (tA #[tm ⟨#[]⟩,tn th 0 0,Z U t.ln,Z U t.cl] 90));rw[hB,ub];have uc:=zD ub At;have Ft:N+1<=B:=by rw[<-hB,<-zv.out];exact At.out.size
 have tD:W3.heap[B]?=tf (tA #[tm ⟨#[]⟩,tn th 0 0,Z U t.ln,Z U t.cl] 90 (0,0)):=by rw[<-ub,<-hB];exact alloc_at _ _
 have Ax:=(uc.block N (by have:=zv.out;omega)).trans CH.out;have AD:bL r lb cap T i w W3:=⟨H1.out.grow uc,(Ext.of_below_size (M:=(·=r)) (show aE w.heap.size w W1 by rw[o];exact CD.out)).trans (Ext.of_below_size (M:=(·=r)) uc) (λk g=> .inl g)⟩
 have AE:=zH AD;have tE:=zH tD;have Dd:=zH Ax;clear hB ub uc tD Ax AD
 go_upto_region 3 with(go_at_call 207;refine(zd.out W3 AE.out.1).mono ?_;rintro e w4 ⟨rfl,AF⟩;have vp:=zH AF;clear AF)
 go_upto_region 4 with(go_at_call 208;refine(B8.out w4 vp.out.1).mono ?_;rintro e w5 ⟨rfl,vq⟩;have AH:=zH (vp.out.trans vq);have vr:=(vp.out.trans vq).2.heap tE.out (by omega);have Dg:=zH vr;obtain⟨⟨a0,a1,a2,a3⟩,⟨b0,b1,b2,b3⟩,AI⟩:=l7 vr;clear vq vr)
 obtain⟨W6,ud⟩:=zE (w5.setCell ⟨B,0,th⟩ (tm x.text));rw[ud];have ue:Ext (·=B) w5 W6:=by rw[<-ud];exact aa (Ext.refl _ _) _
 have AK:W6.heap[B]?=tf (tA #[tm x.text,tn th 0 0,Z U t.ln,Z U t.cl] 90 (0,0)):=by rw[<-ud];exact bk _ B 0 _ _ _ Dg.out
 have AM:=ue.heap (AH.out.2.heap Dd.out (by omega)) (show¬N=B by omega);have vt:=AE.out.trans AH.out;have AN:bL r lb cap T (i+2) w W6:=⟨vt.1.ext ue (by omega) (by have:=ua.out;omega),vt.2.trans ue (λk g=> .inr (by omega))⟩
 have AS:=zH AN;have Do:=zH AK;have Ds:=zH AM;clear ud ue AK AM vt AN a0 a1 a2 a3 b0 b1 b2 b3 AI
 go_upto_region 5 with(go_at_call 207;refine(zj.out W6 AS.out.1).mono ?_;rintro e w7 ⟨rfl,AT⟩;have vu:=zH AT;clear AT)
 have hI:Hd r lb cap T w x.text l t.ln t.cl k B (i+3) w7:=⟨th,0,[],l,rfl,CM.out,vu.out.2.heap Do.out (by omega),World.ownsRow_nil _ _ _ _,AS.out.trans vu.out,by simp,by rw[o];exact vu.out.2.heap Ds.out (by omega)⟩
 have HI:=zH hI;clear hI
 go_loopw [4] (λ_ wr=>∃j:bj,Hd r lb cap T w x.text l t.ln t.cl k B j wr) (λ_ wr=>rJ r T wr)
 case atStart=>exact⟨i+3,HI.out⟩
 case round=>
  obtain⟨j,ao,c,fs,l2,hl,AW,tD,vx,hm,FA,up⟩:=hrel;rw[o] at up;have DA:=zH (fG hm.1);have FF:j<=1000000:=by
   have:=AW.le;have:=(bo.1 HZ.out).1;omega
  have HL:=zH hl;have ur:=zH vx;have HM:=zH hm;have tE:=zH tD;have uv:=zH up;cases AW with
  |nil=>
   have tP:=zH (zs.out k z wr HZ.out hm.1);rw[HK.out] at tP;clear hl vx hm tD up
   go_upto_region 10 with(go_at_call 172;refine tP.out.mono ?_;rintro e E ⟨rfl,tR⟩;have v:=zH tR;clear tR)
   have A1:=HM.out.grow v.out;have tS:=zH A1;clear A1
   go_upto_region 11 with(go_at_call 207;refine(zp.out E tS.out.1).mono ?_;rintro e w9 ⟨rfl,tU⟩;have J:=zH tU;clear tU)
   go_wp2_with (go_at_call 207;refine(B9.out w9 J.out.1).mono ?_;rintro e FG ⟨rfl,K⟩;have tW:=zH (J.out.trans K);have tM:=(J.out.trans K).2.heap ((v.out.block B (ae tE.out)).trans tE.out) (by omega);have vy:=(J.out.trans K).2.heap ((v.out.block N (ae uv.out)).trans uv.out) (by omega);have DB:=zH vy;obtain⟨⟨a0,a1,a2,a3⟩,⟨b0,b1,b2,b3⟩,AI⟩:=l7 tM;obtain⟨⟨p0,p1,p2,p3⟩,⟨q0,q1,q2,q3⟩,F0⟩:=l7 vy;clear K tM vy)
   (try simp only[cQ,Exit.then]);refine dk (er (P:=am) rfl _ _ N 90 _ (0,0) _ rfl (iX DB.out) nx rfl (by kernel_rfl)) rfl ?_;have hM:=tS.out.trans tW.out;have we:∀W u0 u1 u2 u3,Ext (·=N) W ((((W.setCell ⟨N,0,th⟩ u0).setCell ⟨N,1,th⟩ u1).setCell ⟨N,2,th⟩ u2).setCell ⟨N,3,th⟩ u3):=λW u0 u1 u2 u3=>aa (aa (aa (aa (Ext.refl _ _) _) _) _) _;refine⟨ao,c,fs,t.ln,t.cl,rfl,by rw[<-HL.out];simp, ?_,hM.1.ext (we _ _ _ _ _) (by omega) (by have:=ua.out;omega),hM.2.trans (we _ _ _ _ _) (λk g=> .inr (by omega))⟩;rw[o];refine aT (ah (ah (ownsRow_below ur.out v.out) tW.out.2 (λq A=> ?_)) (we _ _ _ _ _) (λq A=> ?_)) (show N<=B+1 by omega)
   ·have:=(ai ur.out A).1;omega
   ·have:=(ai ur.out A).1;omega
  |cons _ G _ y d z3 l3 wg A2 A3 A4 A5 wj=>
   obtain⟨t1,A6,Bk,F1⟩:=wg.first
   have tP:=zH (zs.out j t1 wr A6 hm.1);rw[Bk] at tP;have DE:=zH (Cd.out j);have DG:=zH (λW=>Cl.out j G y W wg);have DH:=zH (λW=>Cp.out G d W A2 A3);have DM:=zH (λW=>zr.out (G+1) z3 W A4 A5);have DO:=zH wj;have Ge:G+2<=T.length:=eN wj.le (mA (bo.1 HZ.out).1);clear hl vx hm tD up wg A2 A3 A4 A5 wj A6 Bk
   go_upto_region 6 with(first
    |(go_at_call 172;refine tP.out.mono ?_;rintro e E ⟨rfl,tR⟩;have v:=zH tR;clear tR)
    |(go_at_call 171;refine(DE.out E (HM.out.1.grow v.out)).mono ?_;rintro e w9 ⟨rfl,rfl⟩))
   have tS:=zH (HM.out.grow v.out);have Bm:∀(w:World)(c:dl cw),c.size=5->(dd ⟨w.heap.size,0,th⟩ [tm ⟨#[]⟩,tt y.1,tm y.2,Z U 0,Z U 0] 0).run am (w.alloc (tA c 92))= .ok () (w.alloc (tA #[tm ⟨#[]⟩,tt y.1,tm y.2,Z U 0,Z U 0] 92)):=λw c hc=>
    cr (P:=am) w 92 c #[tm ⟨#[]⟩,tt y.1,tm y.2,Z U 0,Z U 0] (by show _=tf 5;kernel_rfl) hc (by simp[cn])
   have DP:=zH Bm;clear Bm
   go_upto_region 7 with(go_at_call 209;refine(DG.out E tS.out.1).mono ?_;rintro e w9 ⟨rfl,tU⟩;have J:=zH tU;have DQ:=DP.out w9;clear tU)
   clear DQ;obtain⟨F,hF⟩:=zE w9.heap.size;obtain⟨wk,ux⟩:=zE (w9.alloc (tA #[tm ⟨#[]⟩,tt y.1,tm y.2,Z U 0,Z U 0] 92));rw[hF,ux];have Bs:=gy ux;have By:wk.heap[F]?=tf (tA #[tm ⟨#[]⟩,tt y.1,tm y.2,Z U 0,Z U 0] 92 (0,0)):=by rw[<-ux,<-hF];exact alloc_at _ _
   have K:bL r lb cap T G E wk:=J.out.grow Bs;have wl:=(v.out.block B (ae tE.out)).trans tE.out;have BE:=(v.out.block N (ae uv.out)).trans uv.out;have BT:=ownsRow_below ur.out v.out;have Gk:E.heap.size<=F:=by rw[<-hF];exact J.out.2.size
   have GB:B<E.heap.size:=ae wl;have tW:=zH K;have DS:=zH By;have D0:=zH wl;have D1:=zH BE;have BY:=zH BT;clear hF ux Bs By K wl BE BT
   go_upto_region 8 with(go_at_call 208;refine(DH.out wk tW.out.1).mono ?_;rintro e ws ⟨rfl,xf⟩;have B4:=zH (tW.out.trans xf);have xj:=xf.2.heap DS.out (by omega);have D3:=zH xj;obtain⟨⟨a0,a1,a2,a3,a4⟩,⟨b0,b1,b2,b3,b4⟩,D4⟩:=eZ xj;clear xf xj)
   obtain⟨vc,vd⟩:=zE (((ws.setCell ⟨F,0,th⟩ (tm d.text)).setCell ⟨F,3,th⟩ (Z U d.ln)).setCell ⟨F,4,th⟩ (Z U d.cl));rw[vd];have xl:Ext (·=F) ws vc:=by rw[<-vd];exact aa (aa (aa (Ext.refl _ _) _) _) _
   have B5:vc.heap[F]?=tf (tA #[tm d.text,tt y.1,tm y.2,Z U d.ln,Z U d.cl] 92 (0,0)):=by
    rw[<-vd];have h1:_=tf (Obj.cells #[tm d.text,tt y.1,tm y.2,Z U 0,Z U 0] 92 (0,0)):=bk ws F 0 _ _ (tm d.text) D3.out;have h2:_=tf (Obj.cells #[tm d.text,tt y.1,tm y.2,Z U d.ln,Z U 0] 92 (0,0)):=bk _ F 3 _ _ (Z U d.ln) h1;exact bk _ F 4 _ _ (Z U d.cl) h2
   have B6:bL r lb cap T (G+1) E vc:=⟨B4.out.1.ext xl (by omega) (by have:=ua.out;omega),B4.out.2.trans xl (λk g=> .inr (by omega))⟩
   have B7:=zH B6;have Ek:=zH B5;clear vd xl B5 B6 a0 a1 a2 a3 a4 b0 b1 b2 b3 b4 D4
   go_upto_region 9 with(go_at_call 207;refine(DM.out vc B7.out.1).mono ?_;rintro e xo ⟨rfl,xp⟩;have vf:=zH (B7.out.trans xp);have EV:=zH (xp.2.heap Ek.out (by omega));clear xp)
   have xr:=vf.out.2.heap D0.out (show¬B=r by omega);have E0:=zH xr;have E1:=zH (vf.out.2.heap D1.out (show¬N=r by omega));have xt:=zH (ah BY.out vf.out.2 (λq A=>by have:=(ai BY.out A).1;omega));obtain⟨⟨c0,c1,c2,c3⟩,⟨d0,d1,d2,d3⟩,E2⟩:=l7 xr;obtain⟨⟨a0,a1,a2,a3,a4⟩,⟨b0,b1,b2,b3,b4⟩,GC⟩:=eZ EV.out;have E3:B+1<=xo.heap.size:=E2;have GE:fs.length<=1000000:=by omega
   clear xr
   go_wp2_with (at_builtin;refine jw rfl (.tmp 40) (.tmp 42) 88 rfl (B+1) 92 i0 _ 5 56 gR CN CT C4 C5 rfl (by decide) _ fs.length (fs.flatMap tQ) rfl xt.out xo.heap.size #[tm d.text,tt y.1,tm y.2,Z U d.ln,Z U d.cl] rfl rfl rfl (by simp[cn]) (by unfold du;omega) (by omega) E3 ?_;intro GF xF xT ya E4;obtain⟨yb,yd,E6⟩:=aC xT;subst E6;have E7:=zH xT;have Fc:=zH ya;have ye:=ya.heap E0.out (λh=>by have:=(ai xt.out h).1;omega);have Fi:=zH ye;obtain⟨⟨c0,c1,c2,c3⟩,⟨d0,d1,d2,d3⟩,GO⟩:=l7 ye;clear xT ya E4 ye)
   have vh:Ext (λq=>B<=q) xo (xF.setCell ⟨B,1,th⟩ (tn yb (fs.length+1) yd)):=(Fc.out.mono (λq A=>by have:=(ai xt.out A).1;omega)).trans (Ext.set1 xF B 1 _) (λq A=> .inl (by omega));have yi:=tS.out.trans vf.out;have yk:bL r lb cap T (G+1+1) w (xF.setCell ⟨B,1,th⟩ (tn yb (fs.length+1) yd)):=⟨yi.1.ext vh (by omega) (by have:=ua.out;omega),yi.2.trans vh (λq A=> .inr (by omega))⟩
   have Fk:=zH yk;have Fl:=zH (fG yk.1);have Fm:=zH vh;clear vh yi yk;go_roundw
   case rel=>
    refine⟨G+2,yb,yd,fs++[⟨d.text,y.1,y.2,d.ln,d.cl⟩],l3, ?_,DO.out, ?_, ?_,Fk.out,by rw[bm];simp;omega, ?_⟩
    ·rw[et,ei,<-HL.out];rfl
    ·rw[bm]
     exact bk _ B 1 _ _ _ Fi.out
    ·rw[fS,bm]
     exact ki E7.out (by show B<B+1;omega) _
    ·rw[HN.out];exact Fm.out.heap E1.out (by omega)
   case measure=>
    rw[Fl.out,DA.out];omega
theorem Sm.inn.other {f q:bj}{w w':World}{s:Sm}{j:dl cw}{t:fX}{o:bj×bj}(h:s.inn f w)(u:w.heap[q]?=tf (tA j t o))(v:t≠313)(x:Ext (·=q) w w'):s.inn f w':=by
 rcases h with h|⟨g,cap,y,z,d⟩
 ·exact .inl h
 ·refine .inr ⟨g,cap,y,z,x.heap d (λe=> ?_)⟩
  subst e;rw[u] at d;simp only[dj,Obj.cells.injEq] at d;exact v d.2.1
def Ce (r lb cap:bj)(T:bp Tok)(w:World)(nm:bl)(y:Ty)(f:bp qc)(k:bj)(e:Ending)(w':World):Prop:=
 ∃(ao:cC fg) (c:bj) (d:bp Sm) (g h:aw),e= tB (tv #[tm nm,tn th 0 0,tt y.1,tm y.2,tn ao d.length c,Z U g,Z U h])/\d.map Sm.shp=f/\
  w'.ownsRow w.heap.size 282 9 (tn ao d.length c) d.length (d.flatMap Gy)/\(∀s∈d,s.inn w.heap.size w')/\bL r lb cap T k w w'
theorem oN {r lb cap:bj}{T:bp Tok}{i j k:bj}{t x u v o z:Tok}{y:Ty}{ud:bp qc}(w:World)(h:Rd r lb cap T i w)(ht:T[i]?=tf t)(hy:wK T i y j)(hx:T[j]?=tf x)(vt:x.kind=1)(hu:T[j+1]?=tf u)(vu:dD u eQ=ti)
  (K:T[j+2]?=tf v)(ue:dD v nG=ti)(ho:T[j+3]?=tf o)(vx:dD o mi=ti)(E:iF T (j+4) ud k)(hz:T[k]?=tf z)(f:dD z ja=ti):
  fj am 174 #[tr (tf ⟨r,0,th⟩)] w (Ce r lb cap T w x.text y ud (k+1)):=by
 obtain⟨N,g⟩:=zE w.heap.size;obtain⟨W1,R⟩:=zE (w.alloc (tA #[tm ⟨#[]⟩,tn th 0 0,tt tj,tm ⟨#[]⟩,tn th 0 0,Z U 0,Z U 0] 233));have up:=ik R g;have vy:W1.heap.size=N+1:=by rw[<-R];simp[g]
 have we:W1.heap[N]?=tf (tA #[tm ⟨#[]⟩,tn th 0 0,tt tj,tm ⟨#[]⟩,tn th 0 0,Z U 0,Z U 0] 233 (0,0)):=by rw[<-R,<-g];exact alloc_at _ _
 have G:=h.grow (by rw[g];exact up);have wg:=zH (bE W1 G ht);have zs:cg (∀W,Rd r lb cap T i W->fj am 209 #[tr (tf ⟨r,0,th⟩)] W λe w'=>e= tB (tv #[tt y.1,tm y.2])/\bL r lb cap T j W w'):=λW d=>qb W d hy;have zv:cg (∀W,Rd r lb cap T j W->fj am 208 #[tr (tf ⟨r,0,th⟩)] W λe w'=>e= tB (.tuple #[tm x.text,tv #[Z U x.ln,Z U x.cl]])/\bL r lb cap T (j+1) W w'):=λW d=>dU W d hx vt;have wj:cg (∀W,Rd r lb cap T (j+1) W->fj am 207 #[tr (tf ⟨r,0,th⟩),tm eQ] W λe w'=>e= tB (.tuple #[])/\bL r lb cap T (j+2) W w'):=λW d=>aY eQ W d hu vu;have ur:cg (∀W,Rd r lb cap T (j+2) W->zP 172 #[tr (tf ⟨r,0,th⟩),tm nG] W (tt (dD v nG))):=λW d=>bi nG W d K;rw[ue] at ur;have wk:cg (∀W,Rd r lb cap T (j+2) W->fj am 207 #[tr (tf ⟨r,0,th⟩),tm nG] W λe w'=>e= tB (.tuple #[])/\bL r lb cap T (j+3) W w'):=λW d=>aY nG W d K ue;have An:cg (∀W,Rd r lb cap T (j+3) W->fj am 210 #[tr (tf ⟨r,0,th⟩),Z U 0] W (yH r lb cap T W ud (k+1))):=λW d=>uk 0 (by decide) (by decide) W d ho vx E hz f;unfold eQ at wj;unfold nG at ur wk;simp only[Tok.cells] at wg;have hst:∀(w:World)(c:dl cw),c.size=7->(dd ⟨w.heap.size,0,th⟩ [tm ⟨#[]⟩,tn th 0 0,tt tj,tm ⟨#[]⟩,tn th 0 0,Z U t.ln,Z U t.cl] 0).run am (w.alloc (tA c 233))= .ok () (w.alloc (tA #[tm ⟨#[]⟩,tn th 0 0,tt tj,tm ⟨#[]⟩,tn th 0 0,Z U t.ln,Z U t.cl] 233)):=λw c hc=>
  cr (P:=am) w 233 c #[tm ⟨#[]⟩,tn th 0 0,tt tj,tm ⟨#[]⟩,tn th 0 0,Z U t.ln,Z U t.cl] (by show _=tf 7;kernel_rfl) hc (by simp[cn])
 have At:=zH hst;have Bm:r<N:=by rw[<-g];exact h.rlt
 have tE:cg (lb<N):=by unfold cg;rw[<-g];exact h.lt
 have Ax:=zH R;have AD:=zH up;have wl:=zH vy;have AE:=zH we;have H1:=zH G;have HN:=zH g;clear h ht hy hx vt hu vu K ue ho vx E hz f R up vy we G hst;have AF:=λW=>DZ t.kind t.text t.n t.ln t.cl W;go_enter func174,ntmps174
 go_upto_region 2 with(go_at_call 170;rw[Ax.out];refine wg.out.mono ?_;rintro e w2 ⟨rfl,ws⟩;have AH:=At.out w2;have xf:=zH ws;clear ws)
 clear AH AF;obtain⟨B,hB⟩:=zE w2.heap.size;obtain⟨W3,tG⟩:=zE (w2.alloc (tA #[tm ⟨#[]⟩,tn th 0 0,tt tj,tm ⟨#[]⟩,tn th 0 0,Z U t.ln,Z U t.cl] 233));rw[hB,tG];have tM:=zD tG xf;have Bs:N+1<=B:=by rw[<-hB,<-wl.out];exact xf.out.size
 have xj:W3.heap[B]?=tf (tA #[tm ⟨#[]⟩,tn th 0 0,tt tj,tm ⟨#[]⟩,tn th 0 0,Z U t.ln,Z U t.cl] 233 (0,0)):=by rw[<-tG,<-hB];exact alloc_at _ _
 have xl:=(tM.block N (by have:=wl.out;omega)).trans AE.out;have xo:bL r lb cap T i w W3:=⟨H1.out.grow tM,(Ext.of_below_size (M:=(·=r)) (show aE w.heap.size w W1 by rw[g];exact AD.out)).trans (Ext.of_below_size (M:=(·=r)) tM) (λk f=> .inl f)⟩
 have xp:=zH xo;have AI:=zH xj;have AK:=zH xl;clear hB tG tM xj xl xo
 go_upto_region 3 with(go_at_call 209;refine(zs.out W3 xp.out.1).mono ?_;rintro e w4 ⟨rfl,uv⟩;have xr:=zH uv;have ux:=uv.2.heap AI.out (by omega);have AM:=zH ux;obtain⟨⟨a0,a1,a2,a3,a4,a5,a6⟩,⟨b0,b1,b2,b3,b4,b5,b6⟩,tP⟩:=ed ux;clear uv ux)
 obtain⟨W5,tR⟩:=zE ((w4.setCell ⟨B,2,th⟩ (tt y.1)).setCell ⟨B,3,th⟩ (tm y.2));rw[tR];have tS:Ext (·=B) w4 W5:=by rw[<-tR];exact aa (aa (Ext.refl _ _) _) _
 have xt:W5.heap[B]?=tf (tA #[tm ⟨#[]⟩,tn th 0 0,tt y.1,tm y.2,tn th 0 0,Z U t.ln,Z U t.cl] 233 (0,0)):=by
  rw[<-tR];have G:_=tf (Obj.cells #[tm ⟨#[]⟩,tn th 0 0,tt y.1,tm ⟨#[]⟩,tn th 0 0,Z U t.ln,Z U t.cl] 233 (0,0)):=bk w4 B 2 _ _ (tt y.1) AM.out;exact bk _ B 3 _ _ (tm y.2) G
 have xF:=tS.heap (xr.out.2.heap AK.out (by omega)) (show¬N=B by omega);have vc:=xp.out.trans xr.out;have xT:bL r lb cap T j w W5:=⟨vc.1.ext tS (by omega) (by have:=tE.out;omega),vc.2.trans tS (λk f=> .inr (by omega))⟩
 have ya:=zH xT;have AN:=zH xt;have AS:=zH xF;clear tR tS xt xF vc xT a0 a1 a2 a3 a4 a5 a6 b0 b1 b2 b3 b4 b5 b6 tP
 go_upto_region 4 with(go_at_call 208;refine(zv.out W5 ya.out.1).mono ?_;rintro e w6 ⟨rfl,vd⟩;have yb:=zH vd;have vf:=vd.2.heap AN.out (by omega);have AT:=zH vf;obtain⟨⟨a0,a1,a2,a3,a4,a5,a6⟩,⟨b0,b1,b2,b3,b4,b5,b6⟩,tP⟩:=ed vf;clear vd vf)
 obtain⟨W7,tU⟩:=zE (w6.setCell ⟨B,0,th⟩ (tm x.text));rw[tU];have tW:Ext (·=B) w6 W7:=by rw[<-tU];exact aa (Ext.refl _ _) _
 have yd:W7.heap[B]?=tf (tA #[tm x.text,tn th 0 0,tt y.1,tm y.2,tn th 0 0,Z U t.ln,Z U t.cl] 233 (0,0)):=by rw[<-tU];exact bk _ B 0 _ _ _ AT.out
 have ye:=tW.heap (yb.out.2.heap AS.out (by omega)) (show¬N=B by omega);have vh:=ya.out.trans yb.out;have yi:bL r lb cap T (j+1) w W7:=⟨vh.1.ext tW (by omega) (by have:=tE.out;omega),vh.2.trans tW (λk f=> .inr (by omega))⟩
 have vm:=zH yi;have yk:=zH yd;have AW:=zH ye;clear tU tW yd ye vh yi a0 a1 a2 a3 a4 a5 a6 b0 b1 b2 b3 b4 b5 b6 tP
 go_upto_region 5 with(go_at_call 207;refine(wj.out W7 vm.out.1).mono ?_;rintro e w8 ⟨rfl,yp⟩;have yq:=zH yp;clear yp)
 go_loopw [4] (λ_ wr=>wr=w8) (λ_ _=>0)
 case atStart=>rfl
 case round=>
  obtain rfl:=hrel
  go_upto_region 11 with(go_at_call 172;refine(ur.out _ yq.out.1).mono ?_;rintro e w9 ⟨rfl,yr⟩;have A1:=zH yr;clear yr)
  have yv:=zH (yq.out.grow A1.out)
  go_upto_region 12 with(go_at_call 207;refine(wk.out _ yv.out.1).mono ?_;rintro e A2 ⟨rfl,yy⟩;have tD:=zH (yv.out.trans yy);clear yy)
  have yW:w.heap.size<=A2.heap.size:=eN vm.out.2.size tD.out.2.size
  go_upto_region 13 with(go_at_call 210;refine(An.out _ tD.out.1).mono ?_;rintro e J ⟨v,A,rfl,zc,ua,zd,vp⟩;obtain⟨ao,c,K⟩:=aC ua;subst K;have A3:=zH zc;have A4:=zH (aT ua yW);have A5:cg (∀s∈A,s.inn w.heap.size J):=(λs E=>(zd s E).mono yW);have zj:=zH (tD.out.trans vp);have vq:=(tD.out.trans vp).2.heap yk.out (by omega);have zp:cg (∀q,eL (tn ao A.length c)=tf q->B<q):=(λq hq=>by have G:=(ai ua hq).1;have h2:=ae (tD.out.2.heap yk.out (by omega));omega);have A6:=zH vq;obtain⟨⟨a0,a1,a2,a3,a4,a5,a6⟩,⟨b0,b1,b2,b3,b4,b5,b6⟩,tP⟩:=ed vq;clear zc ua zd vp vq)
  have vr:=zj.out.2.heap AW.out (show¬N=r by omega);have Bk:=zH vr;obtain⟨⟨p0,p1,p2,p3,p4,p5,p6⟩,⟨q0,q1,q2,q3,q4,q5,q6⟩,By⟩:=ed vr;clear vr;go_wp2;(try simp only[cQ,Exit.then]);have zr:(J.setCell ⟨B,4,th⟩ (tn ao A.length c)).heap[N]?=_:=(cT _ _ _ N (by show N≠B;omega)).trans Bk.out;refine dk (er (P:=am) rfl _ _ N 233 _ (0,0) _ rfl (fM zr) underlying233 rfl (by kernel_rfl)) rfl ?_;have ub:Ext (·=B) J (J.setCell ⟨B,4,th⟩ (tn ao A.length c)):=Ext.set1 J B 4 _;have uc:=bV (J.setCell ⟨B,4,th⟩ (tn ao A.length c)) N (tm x.text) (tn th 0 0) (tt y.1) (tm y.2) (tn ao A.length c) (Z U t.ln) (Z U t.cl);have hM:=(vm.out.trans zj.out)
  refine⟨ao,c,A,t.ln,t.cl,rfl,A3.out, ?_,λs E=> ?_,(hM.1.ext ub (by omega) (by have:=tE.out;omega)).ext uc (by omega) (by have:=tE.out;omega),(hM.2.trans ub (λk f=> .inr (by omega))).trans uc (λk f=> .inr (by omega))⟩
  ·exact ah (ah A4.out ub (λq hq e=>by have:=zp.out q hq;omega)) uc (λq hq e=>by have:=zp.out q hq;omega)
  ·exact((A5.out s E).other A6.out (by decide) ub).other zr (by decide) uc
def wQ (w:World)(lb:bj)(T:bp Tok):Prop:=∀(k:bj)(t:Tok),T[k]?=tf t->∀(j:bj)(u:cw),t.cells.toList[j]?=tf u->w.cell? ⟨lb,k*5+j,th⟩=tf u
def AO (T:bp Tok):Prop:=∀(k:bj)(t:Tok),T[k]?=tf t->(t.kind=5↔k+1=T.length)
theorem ul (lb cap:bj)(T:bp Tok)(w:World)(A:T.length<=1000000)(h0:0<T.length)(q:wQ w lb T)(u:AO T):
  zS 169 #[tn (tf ⟨lb,0,th⟩) T.length cap] w (tt ti):=by
 have x:=zH q;have y:=zH u;clear q u;go_enter func169,ntmps169;go_wp2
 go_loop [3] (λk=>∃j:bj,j<=T.length/\k= Z U (j:aw)) (λk=>T.length-(dp k).toNat)
 case atStart=>exact⟨0,cM _,rfl⟩
 case round=>
  obtain⟨j,E,rfl⟩:=hrel
  by_cases g:j<T.length
  ·have z:(j:aw)<(T.length:aw):=by omega
   obtain⟨t,e⟩:∃t,T[j]?=tf t:=⟨_,ap g⟩
   have v:=x.out j t e 0 _ rfl;rw[i7] at v;have f:=y.out j t e
   by_cases d:t.kind=5
   ·have o:j+1=T.length:=f.1 d
    rw[d] at v;have d1:((j:aw)==(T.length:aw)-1)=ti:=by rw[sR];omega
    clear e f d o;go_wp2
    go_round
    case rel=>exact⟨j+1,g,by go_num⟩
    case measure=>simp[dp];omega
   ·have o:j+1≠T.length:=λh=>d (f.2 h)
    have d5:(t.kind==5)=tj:=by rw[cN];exact d
    have d1:((j:aw)==(T.length:aw)-1)=tj:=by rw[cN];omega
    clear e f d o;go_wp2
    go_round
    case rel=>exact⟨j+1,g,by go_num⟩
    case measure=>simp[dp];omega
  ·have z:¬(j:aw)<(T.length:aw):=by omega
   have G:(0:aw)<(T.length:aw):=by omega
   have J:decide ((0:aw)<(T.length:aw))=ti:=by rw[oY];omega
   go_wp2;go_ret;exact⟨rfl,rfl⟩
theorem E9:(am.info? 90).map (λi=>(i.zero,i.size,i.bytes))=tf (tf (tv #[tm ⟨#[]⟩,tn th 0 0,Z U 0,Z U 0]),4,56):=by kernel_rfl
theorem Fa:(am.info? 233).map (λi=>(i.zero,i.size,i.bytes))=tf (tf (tv #[tm ⟨#[]⟩,tn th 0 0,tt tj,tm ⟨#[]⟩,tn th 0 0,Z U 0,Z U 0]),7,104):=by kernel_rfl
structure Pg where
 snm:bl
 fs:bp Fd
 fA:cC fg
 fC:bj
 sl:aw
 sc:aw
 nm:bl
 ret:Ty
 ss:bp Sm
 bA:cC fg
 bC:bj
 gl:aw
 gc:aw
 pA:bj
 pC:bj
 qA:bj
 qC:bj
def Pg.stc (p:Pg):bp cw:=[tm p.snm,tn p.fA p.fs.length p.fC,Z U p.sl,Z U p.sc]
def Pg.fnc (p:Pg):bp cw:=[tm p.nm,tn th 0 0,tt p.ret.1,tm p.ret.2,tn p.bA p.ss.length p.bC,Z U p.gl,Z U p.gc]
def Pg.cells (p:Pg):dl cw:=#[tn (tf ⟨p.pA,0,th⟩) 1 p.pC,tn (tf ⟨p.qA,0,th⟩) 1 p.qC]
structure Pg.inn (p:Pg)(B:bj)(w:World):Prop where
 fields:w.ownsRow B 92 5 (tn p.fA p.fs.length p.fC) p.fs.length (p.fs.flatMap tQ)
 strs:w.ownsRow B 90 4 (tn (tf ⟨p.pA,0,th⟩) 1 p.pC) 1 p.stc
 stmts:w.ownsRow B 282 9 (tn p.bA p.ss.length p.bC) p.ss.length (p.ss.flatMap Gy)
 exprs:∀s∈p.ss,s.inn B w
 fns:w.ownsRow B 233 7 (tn (tf ⟨p.qA,0,th⟩) 1 p.qC) 1 p.fnc
def wR (w:World)(snm:bl)(l:bp (bl×Ty))(nm:bl)(y:Ty)(d:bp qc)(e:Ending)(w':World):Prop:=
 ∃p:Pg,e= tB (.tuple #[tv p.cells,tv #[Z U 0,Z U 0,Z U 0,Z U 0]])/\p.snm=snm/\p.fs.map Fd.shp=l/\p.nm=nm/\p.ret=y/\p.ss.map Sm.shp=d/\p.inn w.heap.size w'/\aE w.heap.size w w'
structure rO (T:bp Tok)(snm:bl)(l:bp (bl×Ty))(nm:bl)(y:Ty)(shs:bp qc):Prop where
 ended:AO T
 short:T.length<=1000000
 toks:∃(k j m:bj) (t x u z z2 t2 x2 u2 v2 o2 s2 e2:Tok),T[0]?=tf t/\dD t jA=ti/\T[1]?=tf x/\x.kind=1/\x.text=snm/\T[2]?=tf u/\dD u mi=ti/\gQ T 3 l k/\T[k]?=tf z/\dD z ja=ti/\T[k+1]?=tf z2/\dD z2 dG=ti/\
  T[k+2]?=tf t2/\dD t2 jA=tj/\wK T (k+2) y j/\T[j]?=tf x2/\x2.kind=1/\x2.text=nm/\T[j+1]?=tf u2/\dD u2 eQ=ti/\T[j+2]?=tf v2/\dD v2 nG=ti/\T[j+3]?=tf o2/\dD o2 mi=ti/\iF T (j+4) shs m/\T[m]?=tf s2/\dD s2 ja=ti/\
  T[m+1]?=tf e2/\e2.kind=5
def Gf (N lb cap:bj)(T:bp Tok)(d:World)(j:bj)(wr:World):Prop:=Rd (N+2) lb cap T j wr/\Ext (λq=>q=N+2\/q=N+3) d wr
def Fb (lb cap:bj)(T:bp Tok)(snm:bl)(l:bp (bl×Ty))(nm:bl)(y:Ty)(e:bp qc)(k m N:bj)(d:World)(wr:World):Prop:=
 (Gf N lb cap T d 0 wr/\wr.heap[N+3]?=tf (tA #[tn th 0 0,tn th 0 0] 179 (0,0)))\/
 (∃p:Pg,Gf N lb cap T d (k+2) wr/\p.snm=snm/\p.fs.map Fd.shp=l/\wr.ownsRow (N+4) 92 5 (tn p.fA p.fs.length p.fC) p.fs.length (p.fs.flatMap tQ)/\wr.ownsRow (N+4) 90 4 (tn (tf ⟨p.pA,0,th⟩) 1 p.pC) 1 p.stc/\
  wr.heap[N+3]?=tf (tA #[tn (tf ⟨p.pA,0,th⟩) 1 p.pC,tn th 0 0] 179 (0,0)))\/
 (∃p:Pg,Gf N lb cap T d (m+1) wr/\p.snm=snm/\p.fs.map Fd.shp=l/\p.nm=nm/\p.ret=y/\p.ss.map Sm.shp=e/\p.inn (N+4) wr/\wr.heap[N+3]?=tf (tA p.cells 179 (0,0)))
theorem fq {w:World}{base:bj}{e:fX}{size n:bj}{v:cw}{xs:bp cw}(h:w.ownsRow base e size v (n+1) xs):∃g c,v= tn (tf ⟨g,0,th⟩) (n+1) c/\base<=g/\g<w.heap.size:=by
 rcases h.2 with⟨_,d⟩|⟨g,cap,o,f,d,j,_⟩
 ·cases d
 ·exact⟨g,cap,f,d,ae j⟩
theorem um {lb cap:bj}{T:bp Tok}{snm nm:bl}{l:bp (bl×Ty)}{y:Ty}{ue:bp qc}(w:World)(vh:wQ w lb T)(B5:lb<w.heap.size)(hx:rO T snm l nm y ue):
  fj am 129 #[tn (tf ⟨lb,0,th⟩) T.length cap] w (wR w snm l nm y ue):=by
 obtain⟨he,hT,k,j,m,t,x,u,z,z2,t2,x2,u2,v2,o2,s2,e2,a1,a2,a3,a4,a5,a6,a7,a8,a9,AD,AE,AF,b1,b2,b3,b4,b5,b6,b7,b8,b9,AH,AI,AK,xF,AM,AN,c1,c2⟩:=hx;obtain⟨N,hN⟩:=zE w.heap.size;obtain⟨W2,vm⟩:=zE ((w.alloc (tA #[tn th 0 0,tn th 0 0] 179)).alloc (tA #[Z U 0,Z U 0,Z U 0,Z U 0] 113));obtain⟨R,ub⟩:=zE ((W2.alloc (tA #[tn (tf ⟨lb,0,th⟩) T.length cap,Z U 0,Z U 0,Z U 0,Z U 0,Z U 0] 269)).alloc (tA #[tn th 0 0,tn th 0 0] 179));have xT:=vg vm hN;have ya:W2.heap.size=N+2:=by rw[<-vm];simp[hN]
 have yb:aE N w R:=by rw[<-ub];exact(xT.alloc (by omega) _).alloc (by simp;omega) _
 have AS:R.heap.size=N+4:=by rw[<-ub];simp[ya]
 have AT:R.heap[N]?=tf (tA #[tn th 0 0,tn th 0 0] 179 (0,0)):=by
  rw[<-ub];refine(cE _ _ N (by simp;omega)).trans ((cE _ _ N (by omega)).trans ?_);rw[<-vm,<-hN];exact i8 _ _ _
 have AW:R.heap[N+1]?=tf (tA #[Z U 0,Z U 0,Z U 0,Z U 0] 113 (0,0)):=by
  rw[<-ub];refine(cE _ _ (N+1) (by simp;omega)).trans ((cE _ _ (N+1) (by omega)).trans ?_);rw[<-vm,<-hN];exact im _ _ _
 have A1:=vZ ub ya;have A2:R.heap[N+3]?=tf (tA #[tn th 0 0,tn th 0 0] 179 (0,0)):=by rw[<-ub,show N+3=W2.heap.size+1 by omega];exact im _ _ _
 have B6:0<T.length:=by have:=(bo.1 a1).1;omega
 have A3:Rd (N+2) lb cap T 0 R:=⟨A1,λq t ht jj u hu=>by rw[yb.cell (p:=⟨lb,q*5+jj,th⟩) (by show lb<N;omega)];exact vh q t ht jj u hu,by omega,by omega,hT⟩
 have B7:cg (zS 169 #[tn (tf ⟨lb,0,th⟩) T.length cap] W2 (tt ti)):=ul lb cap T W2 hT B6 (λq t ht jj u hu=>by rw[xT.cell (p:=⟨lb,q*5+jj,th⟩) (by show lb<N;omega)];exact vh q t ht jj u hu) he;have yd:cg (∀(j:bj)(t:Tok) W,T[j]?=tf t->Rd (N+2) lb cap T j W->zP 170 #[tr (tf ⟨N+2,0,th⟩)] W (tv #[Z U t.kind,tm t.text,Z U t.n,Z U t.ln,Z U t.cl])):=λj t W ht h=>bE W h ht;have ye:cg (∀(j:bj) W,Rd (N+2) lb cap T j W->zS 171 #[tr (tf ⟨N+2,0,th⟩)] W (tt tj)):=λj W hW=>bB W hW;have A4:cg (∀(j:bj)(t:Tok) W,T[j]?=tf t->Rd (N+2) lb cap T j W->zP 172 #[tr (tf ⟨N+2,0,th⟩),tm ⟨#[115,116,114,117,99,116]⟩] W (tt (dD t jA))):=λj t W ht hW=>bi jA W hW ht;have B8:cg (∀W,Rd (N+2) lb cap T 0 W->fj am 173 #[tr (tf ⟨N+2,0,th⟩)] W (Cc (N+2) lb cap T W snm l (k+2))):=λW hW=>by
  rw[<-a5];exact nH W hW a1 a2 a3 a4 a6 a7 a8 a9 AD AE AF
 have B9:cg (∀W,Rd (N+2) lb cap T (k+2) W->fj am 174 #[tr (tf ⟨N+2,0,th⟩)] W (Ce (N+2) lb cap T W nm y ue (m+1))):=λW hW=>by
  rw[<-b6];exact oN W hW b1 b3 b4 b5 b7 b8 b9 AH AI AK xF AM AN
 have Cd:(t.kind==5)=tj:=by rw[cN];have:=wN a2;omega
 have D4:m+1<T.length:=(bo.1 c1).1;have Ek:k+2<m+1:=by
  have h1:=xF.le;obtain⟨_,_,_,h2⟩:=b3.first
  omega
 have Cl:(t2.kind==5)=tj:=by
  rw[cN];intro h;have:=(he _ _ b1).1 h;omega
 have EV:(t.kind != 5)=ti:=by rw[bne,Cd];rfl
 have E0:(t2.kind != 5)=ti:=by rw[bne,Cl];rfl
 have A5:=zH a1;have Cp:=zH a2;have A6:=zH b1;have CA:=zH b2;have CC:=zH c1;have CD:=zH c2;have CH:=zH vm;have CM:=zH ub;have CN:=zH yb;have Bk:=zH AS;have E1:=zH ya;have CT:=zH AT;have C4:=zH AW;have HN:=zH hN;have C5:cg (Fb lb cap T snm l nm y ue k m N R R):= .inl ⟨⟨A3,Ext.refl _ _⟩,A2⟩;obtain⟨i0,C6,C7,Dd,Dg⟩:=m6 E9;obtain⟨j0,Do,Ds,DA,DB⟩:=m6 Fa;have Bm:cg (lb<N):=by unfold cg;omega
 clear vh B5 he a1 a2 a3 a4 a5 a6 a7 a8 a9 AD AE AF b1 b2 b3 b4 b5 b6 b7 b8 b9 AH AI AK xF AM AN c1 c2 vm ub xT yb AS AT AW A1 A2 A3;go_enter func129,ntmps129
 go_upto_region 5 with(go_at_call 169;rw[CH.out];refine B7.out.mono ?_;rintro e W2 ⟨rfl,rfl⟩)
 rw[CM.out];simp only[Nat.add_assoc,Nat.reduceAdd]
 go_loopw [14] (λ_ wr=>Fb lb cap T snm l nm y ue k m N R wr) (λ_ wr=>rJ (N+2) T wr)
 case atStart=>exact C5.out
 case round=>
  rcases hrel with⟨⟨tD,hx⟩,hP⟩|⟨p,⟨tD,hx⟩,vq,vr,vt,vu,hP⟩|⟨p,⟨tD,hx⟩,vq,vr,vt,vu,Bs,By,hP⟩
  ·have E:=zH tD
   have HX:=zH hx;have HP:=zH hP;have yi:=zH (fG tD);clear tD hx hP;have vx:=λW=>rM t.kind t.text t.n t.ln t.cl W
   go_upto_region 7 with(first
    |(go_at_call 170;refine(yd.out (0) _ wr A5.out E.out).mono ?_;rintro e w5 ⟨rfl,uc⟩;have g:=zH uc;clear uc)
    |(go_at_call 171;refine(ye.out (0) w5 (E.out.grow g.out)).mono ?_;rintro e f ⟨rfl,rfl⟩)
    |(go_at_call 172;refine(A4.out (0) _ w5 A5.out (E.out.grow g.out)).mono ?_;rw[Cp.out];rintro e f ⟨rfl,vy⟩;have up:=zH (g.out.trans (vy.mono g.out.size));clear vy))
   clear vx;have we:=E.out.grow up.out;have tE:=(up.out.block (N+3) (ae HP.out)).trans HP.out;have xt:N+4<=f.heap.size:=ae tE;obtain⟨⟨p0,p1⟩,⟨q0,q1⟩,BE⟩:=bZ tE;have yk:=zH we;have tG:=zH tE;obtain⟨S,hS⟩:=zE ((λw'=>w'.cell? ⟨N+3,0,th⟩=tf (tn th 0 0)):World->Prop);have wg:∀w,S w->w.cell? ⟨N+3,0,th⟩=tf (tn th 0 0):=λw h=>by rw[<-hS] at h;exact h
   have ur:∀w,w.cell? ⟨N+3,0,th⟩=tf (tn th 0 0)->S w:=λw h=>by rw[<-hS];exact h
   have tM:=zH wg;have uv:=zH ur;have DE:S f.drew:=ur _ (by first|exact p0|simpa using p0);clear hS wg ur we tE;refine aj 7 S (by kernel_rfl) ?_;refine zT 0 rfl tM.out ?_
   try go_simp
   refine zT 1 rfl tM.out ?_
   try go_simp
   refine zT 2 rfl tM.out ?_
   try go_simp
   refine zO 3 rfl λK' d=> ?_;go_simp;go_at_call 173;refine(B8.out f.drew (yk.out.grow ((aq _ _).drew))).mono ?_;rintro e w7 ⟨ao,c,fs,ln,cl,rfl,wj,wk,tP⟩;have ux:=tP.2;have tR:=ux.heap tG.out (show¬N+3=N+2 by omega);have wl:S w7:=uv.out _ (rowAt tR 0 rfl).1;have DG:f.heap.size<=w7.heap.size:=tP.2.size;have vc:=aT wk (show N+4<=f.drew.heap.size from xt);refine d _ _ wl ?_;clear d
   try go_simp
   refine zO 4 rfl λK' d=> ?_;go_simp;obtain⟨G,hG⟩:=zE w7.heap.size;obtain⟨W8,tS⟩:=zE (w7.alloc (tA #[tm snm,tn ao fs.length c,Z U ln,Z U cl] 90))
   try rw[hG]
   try rw[tS]
   have A:=gy tS;have ws:W8.heap[G]?=tf (tA #[tm snm,tn ao fs.length c,Z U ln,Z U cl] 90 (0,0)):=by rw[<-tS,<-hG];exact alloc_at _ _
   have vd:=(A.block (N+3) (ae tR)).trans tR;refine d _ _ (uv.out _ (rowAt vd 0 rfl).1) ?_;clear d
   try go_simp
   refine zO 5 rfl λK' d=> ?_;have yp:N+4<=W8.heap.size:=by have:=A.size;omega
   refine aG (.tmp 26) (.tmp 29) 22 rfl (N+4) 90 i0 _ 4 56 underlying22 C6 C7 Dd Dg rfl (by decide) (tn th 0 0) 0 [] rfl (World.ownsRow_nil _ _ _ _) (tf ⟨G,0,th⟩) 1 1 [tm snm,tn ao fs.length c,Z U ln,Z U cl] rfl rfl (λh=>by cases h) (λad yq jj uu hu=>by
    obtain rfl:(⟨G,0,th⟩:fg)=ad:=by simpa using yq
    rw[cU,cI,bt _ _ _ _ _ _ ws];simpa using hu) (by simp[cn]) (by unfold du;omega) (by omega) yp ?_
   intro v9 w9 tU xf yr;obtain⟨g9,c9,yv,DH,DM⟩:=fq tU;subst yv;have J:Ext (λ_=>lj) W8 w9:=Ext.of_grown xf (λq o=>by cases o);have tW:=J.heap vd (λh=>h);have xj:S w9:=uv.out _ (rowAt tW 0 rfl).1;obtain⟨⟨r0,r1⟩,⟨s0,s1⟩,DO⟩:=bZ tW;refine d _ _ xj ?_;clear d
   try go_simp
   refine zT 6 rfl tM.out ?_
   try go_simp
   refine zK rfl λK' d=> ?_;go_simp;refine d _ _ ?_;clear d;refine⟨by kernel_rfl, ?_⟩;obtain⟨WF,ua⟩:=zE (w9.setCell ⟨N+3,0,th⟩ (tn (tf ⟨g9,0,th⟩) 1 c9))
   try rw[ua]
   have K:Ext (·=N+3) w9 WF:=by rw[<-ua];exact Ext.set1 w9 (N+3) 0 _
   have xl:Ext (·=N+2) f w9:=(((Ext.refl (·=N+2) f).drew.trans ux (λq h=> .inl h)).trans (Ext.of_below_size (M:=λ_=>lj) A) (λq h=>h.elim)).trans J (λq h=>h.elim);have xo:Ext (λq=>q=N+2\/q=N+3) f WF:=(xl.mono (λq h=> .inl h)).trans K (λq h=> .inl (.inr h));have vp:Ext (λq=>q=N+2\/q=N+3) wr WF:=(Ext.of_below_size (M:=λq=>q=N+2\/q=N+3) up.out).trans xo (λq h=> .inl h);have vf:Rd (N+2) lb cap T (k+2) WF:=((tP.1.grow A).ext J (λh=>h) (λh=>h)).ext K (by omega) (by have:=Bm.out;omega);have xp:WF.heap[N+3]?=tf (tA #[tn (tf ⟨g9,0,th⟩) 1 c9,tn th 0 0] 179 (0,0)):=by rw[<-ua];exact bk w9 (N+3) 0 _ _ _ tW
   have xr:Fb lb cap T snm l nm y ue k m N R WF:= .inr (.inl ⟨⟨snm,fs,ao,c,ln,cl,⟨#[]⟩,bG,[],th,0,0,0,g9,c9,0,0⟩,⟨vf,HX.out.trans vp (λq h=> .inl h)⟩,rfl,wj,
    ah (ah (ownsRow_below vc A) J (λq _ h=>h)) K (λq o e=>by have:=(ai vc o).1;omega),
    ah tU K (λq o e=>by have:=(ai tU o).1;omega),xp⟩)
   have DP:k+2<T.length:=by omega
   have yy:=zH (fG vf);have yW:=zH xr;clear ua K xl xo vp vf xp xr xf yr tU vc wk wj ux tP tR vd tW J A ws tS hG wl xj r0 r1 s0 s1;go_wp2;go_roundw
   case rel=>exact yW.out
   case measure=>
    rw[yy.out,yi.out];omega
  ·have E:=zH tD
   have HX:=zH hx;have HP:=zH hP;have yi:=zH (fG tD);have zc:=zH vq;have zd:=zH vr;have zj:=zH vt;have zp:=zH vu;clear tD hx hP vq vr vt vu;have vx:=λW=>rM t2.kind t2.text t2.n t2.ln t2.cl W
   go_upto_region 8 with(first
    |(go_at_call 170;refine(yd.out (k+2) _ wr A6.out E.out).mono ?_;rintro e w5 ⟨rfl,uc⟩;have g:=zH uc;clear uc)
    |(go_at_call 171;refine(ye.out (k+2) w5 (E.out.grow g.out)).mono ?_;rintro e f ⟨rfl,rfl⟩)
    |(go_at_call 172;refine(A4.out (k+2) _ w5 A6.out (E.out.grow g.out)).mono ?_;rw[CA.out];rintro e f ⟨rfl,vy⟩;have up:=zH (g.out.trans (vy.mono g.out.size));clear vy))
   clear vx;have we:=E.out.grow up.out;have tE:=(up.out.block (N+3) (ae HP.out)).trans HP.out;have xt:N+4<=f.heap.size:=ae tE;obtain⟨⟨p0,p1⟩,⟨q0,q1⟩,BE⟩:=bZ tE;have yk:=zH we;have tG:=zH tE;obtain⟨S,hS⟩:=zE ((λw'=>w'.cell? ⟨N+3,1,th⟩=tf (tn th 0 0)):World->Prop);have wg:∀w,S w->w.cell? ⟨N+3,1,th⟩=tf (tn th 0 0):=λw h=>by rw[<-hS] at h;exact h
   have ur:∀w,w.cell? ⟨N+3,1,th⟩=tf (tn th 0 0)->S w:=λw h=>by rw[<-hS];exact h
   have tM:=zH wg;have uv:=zH ur;have DE:S f.drew:=ur _ (by first|exact p1|simpa using p1);clear hS wg ur we tE;refine aj 7 S (by kernel_rfl) ?_;refine zT 0 rfl tM.out ?_
   try go_simp
   refine zT 1 rfl tM.out ?_
   try go_simp
   refine zT 2 rfl tM.out ?_
   try go_simp
   refine zO 3 rfl λK' d=> ?_;go_simp;go_at_call 174;refine(B9.out f.drew (yk.out.grow ((aq _ _).drew))).mono ?_;rintro e w7 ⟨ao,c,ss,ln,cl,rfl,wj,wk,vh,tP⟩;have ux:=tP.2;have tR:=ux.heap tG.out (show¬N+3=N+2 by omega);have wl:S w7:=uv.out _ (rowAt tR 1 rfl).1;have DG:f.heap.size<=w7.heap.size:=tP.2.size;have vc:=aT wk (show N+4<=f.drew.heap.size from xt);have BT:∀s∈ss,s.inn (N+4) w7:=λs hs=>(vh s hs).mono (show N+4<=f.drew.heap.size from xt);refine d _ _ wl ?_;clear d
   try go_simp
   refine zO 4 rfl λK' d=> ?_;go_simp;obtain⟨G,hG⟩:=zE w7.heap.size;obtain⟨W8,tS⟩:=zE (w7.alloc (tA #[tm nm,tn th 0 0,tt y.1,tm y.2,tn ao ss.length c,Z U ln,Z U cl] 233))
   try rw[hG]
   try rw[tS]
   have A:=gy tS;have ws:W8.heap[G]?=tf (tA #[tm nm,tn th 0 0,tt y.1,tm y.2,tn ao ss.length c,Z U ln,Z U cl] 233 (0,0)):=by rw[<-tS,<-hG];exact alloc_at _ _
   have vd:=(A.block (N+3) (ae tR)).trans tR;refine d _ _ (uv.out _ (rowAt vd 1 rfl).1) ?_;clear d
   try go_simp
   refine zO 5 rfl λK' d=> ?_;have yp:N+4<=W8.heap.size:=by have:=A.size;omega
   refine aG (.tmp 33) (.tmp 36) 177 rfl (N+4) 233 j0 _ 7 104 underlying177 Do Ds DA DB rfl (by decide) (tn th 0 0) 0 [] rfl (World.ownsRow_nil _ _ _ _) (tf ⟨G,0,th⟩) 1 1 [tm nm,tn th 0 0,tt y.1,tm y.2,tn ao ss.length c,Z U ln,Z U cl] rfl rfl (λh=>by cases h) (λad yq jj uu hu=>by
    obtain rfl:(⟨G,0,th⟩:fg)=ad:=by simpa using yq
    rw[cU,cI,bt _ _ _ _ _ _ ws];simpa using hu) (by simp[cn]) (by unfold du;omega) (by omega) yp ?_
   intro v9 w9 tU xf yr;obtain⟨g9,c9,yv,DH,DM⟩:=fq tU;subst yv;have J:Ext (λ_=>lj) W8 w9:=Ext.of_grown xf (λq o=>by cases o);have tW:=J.heap vd (λh=>h);have xj:S w9:=uv.out _ (rowAt tW 1 rfl).1;obtain⟨⟨r0,r1⟩,⟨s0,s1⟩,DO⟩:=bZ tW;refine d _ _ xj ?_;clear d
   try go_simp
   refine zT 6 rfl tM.out ?_
   try go_simp
   refine zK rfl λK' d=> ?_;go_simp;refine d _ _ ?_;clear d;refine⟨by kernel_rfl, ?_⟩;obtain⟨WF,ua⟩:=zE (w9.setCell ⟨N+3,1,th⟩ (tn (tf ⟨g9,0,th⟩) 1 c9))
   try rw[ua]
   have K:Ext (·=N+3) w9 WF:=by rw[<-ua];exact Ext.set1 w9 (N+3) 1 _
   have xl:Ext (·=N+2) f w9:=(((Ext.refl (·=N+2) f).drew.trans ux (λq h=> .inl h)).trans (Ext.of_below_size (M:=λ_=>lj) A) (λq h=>h.elim)).trans J (λq h=>h.elim);have xo:Ext (λq=>q=N+2\/q=N+3) f WF:=(xl.mono (λq h=> .inl h)).trans K (λq h=> .inl (.inr h));have vp:Ext (λq=>q=N+2\/q=N+3) wr WF:=(Ext.of_below_size (M:=λq=>q=N+2\/q=N+3) up.out).trans xo (λq h=> .inl h);have vf:Rd (N+2) lb cap T (m+1) WF:=((tP.1.grow A).ext J (λh=>h) (λh=>h)).ext K (by omega) (by have:=Bm.out;omega);have xp:WF.heap[N+3]?=tf (tA #[tn (tf ⟨p.pA,0,th⟩) 1 p.pC,tn (tf ⟨g9,0,th⟩) 1 c9] 179 (0,0)):=by rw[<-ua];exact bk w9 (N+3) 1 _ _ _ tW
   have ud:∀{e:fX}{size n:bj}{v:cw}{xs:bp cw},wr.ownsRow (N+4) e size v n xs->WF.ownsRow (N+4) e size v n xs:=λh=>ah h vp (λq o e=>by have:=(ai h o).1;omega);have xr:Fb lb cap T snm l nm y ue k m N R WF:= .inr (.inr ⟨⟨p.snm,p.fs,p.fA,p.fC,p.sl,p.sc,nm,y,ss,ao,c,ln,cl,p.pA,p.pC,g9,c9⟩,⟨vf,HX.out.trans vp (λq h=> .inl h)⟩,zc.out,zd.out,rfl,rfl,wj,
    ⟨ud zj.out,ud zp.out,ah (ah (ownsRow_below vc A) J (λq _ h=>h)) K (λq o e=>by have:=(ai vc o).1;omega),
     λs hs=>(((BT s hs).ext (Ext.of_below_size (M:=λ_=>lj) A) (λ_ _ _ h=>h)).ext J (λ_ _ _ h=>h)).ext K (λq h1 _=>by omega),
     ah tU K (λq o e=>by have:=(ai tU o).1;omega)⟩,xp⟩)
   have DP:k+2<T.length:=by omega
   clear vh BT ud;have yy:=zH (fG vf);have yW:=zH xr;clear ua K xl xo vp vf xp xr xf yr tU vc wk wj ux tP tR vd tW J A ws tS hG wl xj r0 r1 s0 s1;go_wp2;go_roundw
   case rel=>exact yW.out
   case measure=>
    rw[yy.out,yi.out];omega
  ·have E:=zH tD
   have HX:=zH hx;have HP:=zH hP;have zc:=zH vq;have zd:=zH vr;have zj:=zH vt;have zp:=zH vu;have DQ:=zH Bs;have tG:=zH By;clear tD hx hP vq vr vt vu Bs By;have vx:=λW=>rM 5 e2.text e2.n e2.ln e2.cl W;have DS:cg (∀W,aE wr.heap.size wr W->zS 171 #[tr (tf ⟨N+2,0,th⟩)] W (tt tj)):=λW hW=>ye.out (m+1) W (E.out.grow hW)
   go_upto_region 11 with(first
    |(go_at_call 170;refine(yd.out (m+1) _ wr CC.out E.out).mono ?_;rw[CD.out];rintro e w5 ⟨rfl,uc⟩;have g:=zH uc;clear uc)
    |(go_at_call 171;refine(DS.out w5 g.out).mono ?_;rintro e f ⟨rfl,rfl⟩))
   clear vx;have zr:=(g.out.block (N+3) (ae HP.out)).trans HP.out;have zs:=HX.out.heap CT.out (show¬(N=N+2\/N=N+3) by omega);have zv:=HX.out.heap C4.out (show¬(N+1=N+2\/N+1=N+3) by omega);have An:=(g.out.block N (ae zs)).trans zs;have At:=(g.out.block (N+1) (ae zv)).trans zv;have D0:=zH An;have D1:=zH At;unfold Pg.cells at zr;obtain⟨⟨p0,p1⟩,⟨q0,q1⟩,BE⟩:=bZ zr;obtain⟨⟨b0,b1⟩,⟨d0,d1⟩,E2⟩:=bZ An;obtain⟨⟨e0,e1,E3,e3⟩,⟨f0,f1,f2,f3⟩,E4⟩:=l7 At;clear zr zs zv An At;go_wp2;(try simp only[cQ,Exit.then]);have BY:∀W u0 u1,Ext (·=N) W ((W.setCell ⟨N,0,th⟩ u0).setCell ⟨N,1,th⟩ u1):=λW u0 u1=>aa (aa (Ext.refl _ _) _) _;have B4:∀W u0 u1 u2 u3,Ext (·=N+1) W ((((W.setCell ⟨N+1,0,th⟩ u0).setCell ⟨N+1,1,th⟩ u1).setCell ⟨N+1,2,th⟩ u2).setCell ⟨N+1,3,th⟩ u3):=λW u0 u1 u2 u3=>aa (aa (aa (aa (Ext.refl _ _) _) _) _) _;refine dk (cO rfl _ _ N (N+1) 179 113 _ _ (0,0) (0,0) _ _ rfl ((B4 _ _ _ _ _).heap (aW D0.out) (show¬N=N+1 by omega)) rfl (iX ((BY _ _ _).heap D1.out (show¬N+1=N by omega))) underlying179 (by kernel_rfl) oy (by kernel_rfl)) rfl ?_;have D3:Ext (λ_=>lj) wr w5:=Ext.of_below_size g.out;have Ax:Ext (λq=>q=N\/q=N+1) wr _:=((D3.mono (λ_ h=>h.elim)).trans (BY w5 (tn (tf ⟨p.pA,0,th⟩) 1 p.pC) (tn (tf ⟨p.qA,0,th⟩) 1 p.qC)) (λq h=> .inl (.inl h))).trans (B4 _ (Z U 0) (Z U 0) (Z U 0) (Z U 0)) (λq h=> .inl (.inr h));have ud:∀{e:fX}{size n:bj}{v:cw}{xs:bp cw},wr.ownsRow (N+4) e size v n xs->_:=λ{e size n v xs} h=>aT (ah (e:=e) (size:=size) (n:=n) (v:=v) (xs:=xs) h Ax (λq o e=>by have:=(ai h o).1;omega)) (show w.heap.size<=N+4 by omega);refine⟨p,rfl,zc.out,zd.out,zj.out,zp.out,DQ.out,⟨ud tG.out.fields,ud tG.out.strs,ud tG.out.stmts,λs hs=>((tG.out.exprs s hs).ext Ax (λq h1 _=>by omega)).mono (by omega),ud tG.out.fns⟩, ?_⟩;rw[hN];exact CN.out.trans ((HX.out.below (by rw[Bk.out];omega) (λq h=>by omega)).trans (Ax.below (eN (by rw[Bk.out];omega) HX.out.size) (λq h=>by omega)))
theorem wS {α:Type}{f:α->bp cw}{m:bj}(hf:∀x,(f x).length=m):∀(l:bp α)(k j:bj)(x:α)(u:cw),l[k]?=tf x->(f x)[j]?=tf u->(l.flatMap f)[k*m+j]?=tf u
 |[],k,_,_,_,h,_=>by simp at h
 |y::l,0,j,x,u,h,d=>by
  obtain rfl:y=x:=by simpa using h
  rw[fm,Nat.zero_mul,cI,mz (bo.1 d).1];exact d
 |y::l,k+1,j,x,u,h,d=>by
  have ih:=wS hf l k j x u (by simpa using h) d;rw[fm,gA (by rw[hf];rw[rB];omega),hf,show(k+1)*m+j-m=k*m+j by rw[rB];omega];exact ih
theorem vD {α:Type}{f:α->bp cw}{m base n g c:bj}(hf:∀x,(f x).length=m){w:World}{e:fX}{l:bp α}(h:w.ownsRow base e m (tn (tf ⟨g,0,th⟩) n c) n (l.flatMap f)){k j:bj}{x:α}{u:cw}(o:l[k]?=tf x)(q:(f x)[j]?=tf u):
  w.cell? ⟨g,k*m+j,th⟩=tf u:=by
 have d:=h.cells (g:=g) rfl (k*m+j) u (wS hf l k j x u o q);rw[cU,cI] at d;exact d
def D5 (w:World)(Q:bp qc->Prop)(f:bl)(l:bp (bl×Ty))(nm:bl)(y:Ty)(e:Ending)(w':World):Prop:=∃d,Q d/\wR w f l nm y d e w'
theorem wT (s:bl)(R:bp Am)(n0:bj)(Q:bp qc->Prop)(K nm:bl)(l:bp (bl×Ty))(y:Ty)(w:World)(hs:s.size<=1000000)(vu:nD s)(h0:s.size≠0)(hR:kV s n0 (fF s s.size 0)=tf R)
  (hT:∀T:bp Tok,T.map Tok.sig=R++[(5,⟨#[]⟩,0)]->∃d,Q d/\rO T K l nm y d):
  fj am 92 #[tm s] w (D5 w Q K l nm y):=by
 obtain⟨N,x⟩:=zE w.heap.size;obtain⟨W2,o⟩:=zE ((w.alloc (tA #[tn th 0 0,tn th 0 0] 179)).alloc (tA #[Z U 0,Z U 0,Z U 0,Z U 0] 113));have uc:=vg o x;have ud:W2.heap.size=N+2:=by rw[<-o];simp[x]
 have ue:=vZ o x;have up:=yo o x;have vx:=zH (wH s R n0 W2 hs vu h0 hR);have hst:∀(w:World)(c:dl cw),c.size=4->(dd ⟨w.heap.size,0,th⟩ [Z U 0,Z U 0,Z U 0,Z U 0] 0).run am (w.alloc (tA c 113))= .ok () (w.alloc (tA #[Z U 0,Z U 0,Z U 0,Z U 0] 113)):=λw c hc=>
  cr (P:=am) w 113 c #[Z U 0,Z U 0,Z U 0,Z U 0] (by show _=tf 4;kernel_rfl) hc (by simp[cn])
 have vy:=zH hst;have HT:=zH hT;have we:=zH o;have wg:=zH uc;have z:=zH ud;have wj:=zH ue;have wk:=zH up;have wl:cg (∀(lb cap:bj)(T:bp Tok)(d:bp qc)(W:World),wQ W lb T->lb<W.heap.size->rO T K l nm y d->fj am 129 #[tn (tf ⟨lb,0,th⟩) T.length cap] W (wR W K l nm y d)):=λlb cap T d W A h2 h3=>um W A h2 h3;clear hR hT o uc ud ue up hst;go_enter func92,ntmps92
 go_upto_region 2 with(go_at_call 128;rw[we.out];refine vx.out.mono ?_;rintro e w3 ⟨v,T,rfl,tD,ur,uv⟩;obtain⟨d,hQ,tR⟩:=HT.out T ur;obtain⟨q,E⟩:∃q,T.length=q+1:=⟨T.length-1,by obtain⟨_,_,k,j,m,t,_,_,_,_,_,_,_,_,_,_,_,a1,_⟩:=tR;have:=(bo.1 a1).1;omega⟩;obtain⟨lb,cap,hv,ws,ux⟩:=fq (by rw[E] at tD;exact tD);rw[<-E] at hv;subst hv;have xf:=zH tD;have xj:=zH tR;have HQ:=zH hQ;have vc:=zH uv;have vd:=zH ux;have xl:=vy.out w3;clear tD ur uv tR hQ E ws ux)
 clear xl;obtain⟨D,hD⟩:=zE w3.heap.size;obtain⟨g,tE⟩:=zE (w3.alloc (tA #[Z U 0,Z U 0,Z U 0,Z U 0] 113));rw[hD,tE];have tG:=gy tE;have vf:aE W2.heap.size W2 g:=vc.out.trans (tG.mono vc.out.size);have vh:g.heap[D]?=tf (tA #[Z U 0,Z U 0,Z U 0,Z U 0] 113 (0,0)):=by rw[<-tE,<-hD];exact alloc_at _ _
 have vm:wQ g lb T:=λk t ht j u hu=>(tG.cell (p:=⟨lb,k*5+j,th⟩) vd.out).trans (vD (f:=tY) (λ_=>rfl) xf.out ht hu);have vp:lb<g.heap.size:=cD vd.out tG.size;have xo:=zH (wl.out lb cap T d g vm vp xj.out);have tS:=zH vf;obtain⟨⟨c0,c1,c2,c3⟩,_,xt⟩:=l7 vh;clear hD tE tG vf vh vm vp
 go_wp2_with (go_at_call 129;refine xo.out.mono ?_;rintro e w5 ⟨p,rfl,A,h2,h3,h4,h5,h6,tU⟩;have G:=zH (And.intro A (And.intro h2 (And.intro h3 (And.intro h4 h5))));have J:=zH h6;have xF:=zH tU;have tM:=tS.out.trans (tU.mono tS.out.size);have vq:=zH tM;have tW:=(tM.block N (by rw[z.out];omega)).trans wj.out;have ua:=(tM.block (N+1) (by rw[z.out];omega)).trans wk.out;have xp:=zH tW;have xr:=zH ua;obtain⟨⟨b0,b1⟩,⟨d0,d1⟩,xT⟩:=bZ tW;obtain⟨⟨e0,e1,ya,e3⟩,⟨f0,f1,f2,f3⟩,yb⟩:=l7 ua;clear A h2 h3 h4 h5 h6 tU tM tW ua;unfold Pg.cells)
 (try simp only[cQ,Exit.then]);have vr:∀W u0 u1,Ext (·=N) W ((W.setCell ⟨N,0,th⟩ u0).setCell ⟨N,1,th⟩ u1):=λW u0 u1=>aa (aa (Ext.refl _ _) _) _;have vt:∀W u0 u1 u2 u3,Ext (·=N+1) W ((((W.setCell ⟨N+1,0,th⟩ u0).setCell ⟨N+1,1,th⟩ u1).setCell ⟨N+1,2,th⟩ u2).setCell ⟨N+1,3,th⟩ u3):=λW u0 u1 u2 u3=>aa (aa (aa (aa (Ext.refl _ _) _) _) _) _;refine dk (cO rfl _ _ N (N+1) 179 113 _ _ (0,0) (0,0) _ _ rfl ((vt _ _ _ _ _).heap (aW xp.out) (show¬N=N+1 by omega)) rfl (iX ((vr _ _ _).heap xr.out (show¬N+1=N by omega))) underlying179 (by kernel_rfl) oy (by kernel_rfl)) rfl ?_;have ub:Ext (λq=>q=N\/q=N+1) w5 _:=((vr w5 (tn (tf ⟨p.pA,0,th⟩) 1 p.pC) (tn (tf ⟨p.qA,0,th⟩) 1 p.qC)).mono (λq h=> .inl h)).trans (vt _ (Z U 0) (Z U 0) (Z U 0) (Z U 0)) (λq h=> .inl (.inr h));have yd:N+2<=g.heap.size:=by rw[<-z.out];exact tS.out.size
 have tP:∀{e:fX}{size n:bj}{v:cw}{xs:bp cw},w5.ownsRow g.heap.size e size v n xs->_:=λ{e size n v xs} h=>aT (ah (e:=e) (size:=size) (n:=n) (v:=v) (xs:=xs) h ub (λq E e=>by have:=(ai h E).1;omega)) (show w.heap.size<=g.heap.size by omega);refine⟨d,HQ.out,p,rfl,G.out.1,G.out.2.1,G.out.2.2.1,G.out.2.2.2.1,G.out.2.2.2.2,⟨tP J.out.fields,tP J.out.strs,tP J.out.stmts,λs hs=>((J.out.exprs s hs).ext ub (λq A _=>by omega)).mono (by omega),tP J.out.fns⟩, ?_⟩;rw[x];exact wg.out.trans ((vq.out.mono (by rw[z.out];omega)).trans (ub.below (eN (by rw[z.out];omega) vq.out.size) (λq h=>by omega)))
structure jh (p:Pg)(L:bj)(w:World):Prop where
 lo:L<=w.heap.size
 pA:p.pA<L
 s:∀j u,p.stc[j]?=tf u->w.cell? ⟨p.pA,j,th⟩=tf u
 qA:p.qA<L
 f:∀j u,p.fnc[j]?=tf u->w.cell? ⟨p.qA,j,th⟩=tf u
 fd:aH Fd.cells 5 w L p.fA p.fs
 st:aH Sm.cells 9 w L p.bA p.ss
 ex:∀x∈p.ss,(x.es=[]/\x.E= tn th 0 0)\/∃g cap,x.E= tn (tf ⟨g,0,th⟩) x.es.length cap/\g<L/\∀(k:bj)(e:Ex),x.es[k]?=tf e->∀(j:bj)(u:cw),e.cells.toList[j]?=tf u->w.cell? ⟨g,k*7+j,th⟩=tf u
 lfs:p.fs.length<=1000000
 lss:p.ss.length<=1000000
 cb:p.ss.length<=p.bC
theorem jh.ext {p:Pg}{L:bj}{w w':World}{M:bj->Prop}(h:jh p L w)(E:Ext M w w')(G:∀k,k<L->¬M k):jh p L w':=by
 have v:∀b o,b<L->w'.cell? ⟨b,o,th⟩=w.cell? ⟨b,o,th⟩:=λb o hb=>E.cell (a:=⟨b,o,th⟩) (cD hb h.lo) (G b hb);refine⟨eN h.lo E.size,h.pA,λj u d=>by rw[v _ _ h.pA];exact h.s j u d,h.qA,λj u d=>by rw[v _ _ h.qA];exact h.f j u d,λz=> ?_,λz=> ?_,λx J=> ?_,h.lfs,h.lss,h.cb⟩
 ·obtain⟨b,A,t,q,y⟩:=h.fd z
  exact⟨b,A,t,q,λi x hi k u d=>by rw[v _ _ q];exact y i x hi k u d⟩
 ·obtain⟨b,A,t,q,y⟩:=h.st z
  exact⟨b,A,t,q,λi x hi k u d=>by rw[v _ _ q];exact y i x hi k u d⟩
 ·rcases h.ex x J with t|⟨g,cap,t,q,y⟩
  ·exact .inl t
  ·exact .inr ⟨g,cap,t,q,λk e K j u d=>by rw[v _ _ q];exact y k e K j u d⟩
theorem jh.grow {p:Pg}{L:bj}{w w':World}(h:jh p L w)(hb:aE w.heap.size w w'):jh p L w':=h.ext (Ext.of_below_size (M:=λ_=>lj) hb) (λ_ _ h=>h)
theorem eO {α:Type}{cells:α->dl cw}{m base n:bj}(j:∀x,(cells x).toList.length=m){w:World}{e:fX}{ao:cC fg}{c:bj}{l:bp α}(h:w.ownsRow base e m (tn ao n c) n (l.flatMap λx=>(cells x).toList))(z:n=l.length):aH cells m w w.heap.size ao l:=by
 intro o;obtain⟨q,t⟩:∃q,n=q+1:=⟨n-1,by have:=kq.2 o;omega⟩
 subst t;obtain⟨g,A,d,_,v⟩:=fq h;simp only[fy] at d;obtain⟨rfl,_,rfl⟩:=d;exact⟨g,0,rfl,v,λi x hi k u y=>by rw[cI];exact vD (f:=λx=>(cells x).toList) j h hi y⟩
theorem wU {w:World}{base n m c:bj}{e:fX}{ao:cC fg}{xs:bp cw}(h:w.ownsRow base e m (tn ao n c) n xs):n<=c:=by
 rcases h.2 with⟨d,f⟩|⟨g,cap,j,d,_,_,o,_⟩
 ·omega
 ·simp only[fy] at d
  omega
theorem Cg {p:Pg}{B:bj}{w:World}(h:p.inn B w)(y:p.fs.length<=1000000)(z:p.ss.length<=1000000):jh p w.heap.size w:=by
 obtain⟨K,c1,q,_,A⟩:=fq h.strs;obtain⟨R,c2,t,_,E⟩:=fq h.fns;simp only[fy,dj,eV] at q t;obtain⟨⟨rfl,_⟩,_,rfl⟩:=q;obtain⟨⟨rfl,_⟩,_,rfl⟩:=t;refine⟨cd _,A,λj u d=> ?_,E,λj u d=> ?_,eO (cells:=Fd.cells) (m:=5) (λ_=>rfl) h.fields rfl,eO (cells:=Sm.cells) (m:=9) (λ_=>rfl) h.stmts rfl,λx G=> ?_,y,z,wU h.stmts⟩
 ·have:=h.strs.cells (g:=p.pA) rfl j u d
  rwa [cU,cI] at this
 ·have:=h.fns.cells (g:=p.qA) rfl j u d
  rwa [cU,cI] at this
 ·rcases h.exprs x G with o|⟨g,cap,o,W,v⟩
  ·exact .inl o
  ·refine .inr ⟨g,cap,o,ae v,λk e J j u d=> ?_⟩
   rw[bt _ _ _ _ _ _ v];have:=wS (f:=Ha) (m:=7) (λ_=>rfl) x.es k j e u J d;simpa using this
structure Ck (c:bj)(p:Pg)(L:bj)(f0 f1 f2 f3 f4 f5 f6:cw)(sA:cC fg)(sC:bj)(S:bp Fd)(w:World):Prop where
 row:w.heap[c]?=tf (tA #[tn (tf ⟨p.pA,0,th⟩) 1 p.pC,tn (tf ⟨p.qA,0,th⟩) 1 p.qC,f0,f1,f2,f3,f4,f5,f6,tn sA S.length sC,Z U 0,Z U 0,Z U 0,Z U 0,Z U 0] 275 (0,0))
 pg:jh p L w
 hc:L<=c
 seen:aH Fd.cells 5 w w.heap.size sA S
 ls:S.length<=1000000
 nc:∀a,S≠[]->sA=tf a->a.block≠c
section
variable {c:bj}{p:Pg}{L:bj}{f0 f1 f2 f3 f4 f5 f6:cw}{sA:cC fg}{sC:bj}{S:bp Fd}{w w':World}
theorem Ck.grow (h:Ck c p L f0 f1 f2 f3 f4 f5 f6 sA sC S w)(hb:aE w.heap.size w w'):Ck c p L f0 f1 f2 f3 f4 f5 f6 sA sC S w':=
 ⟨(hb.block c (ae h.row)).trans h.row,h.pg.grow hb,h.hc,aH.grow h.seen hb,h.ls,h.nc⟩
end
theorem dx {c:bj}{p:Pg}{L:bj}{f0 f1 f2 f3 f4 f5 f6:cw}{sA:cC fg}{sC:bj}{S:bp Fd}(w:World)(h:Ck c p L f0 f1 f2 f3 f4 f5 f6 sA sC S w):
  zS 178 #[tr (tf ⟨c,0,th⟩)] w (tt tj):=by
 have c1:=(rowAt h.row 11 rfl).1;have d:=ae h.row;clear h;go_enter func178,ntmps178;go_wp2;go_ret;exact⟨rfl,rfl⟩
theorem bQ {c:bj}{p:Pg}{L:bj}{f0 f1 f2 f3 f4 f5 f6:cw}{sA:cC fg}{sC:bj}{S:bp Fd}(f a b:aw)(w:World)(h:Ck c p L f0 f1 f2 f3 f4 f5 f6 sA sC S w):
  zP 176 #[tr (tf ⟨c,0,th⟩),tt ti,Z U f,tv #[Z U a,Z U b]] w (tt ti):=by
 obtain⟨W1,d⟩:=zE (w.alloc (tA #[Z U a,Z U b] 40));have g:=gy d;have j:=zH (dx W1 (h.grow g));have o:=zH d;have q:=zH g;clear h d g;go_enter func176,ntmps176
 go_wp2_with (go_at_call 178;(try rw[o.out]);refine j.out.mono ?_;rintro e W1 ⟨rfl,rfl⟩)
 go_ret;exact⟨rfl,q.out⟩
def nJ (p:Pg)(nm:bl):aw:=if p.snm==nm then 0 else-1
def D6 (p:Pg)(nm:bl):aw:=if p.nm==nm then 0 else-1
theorem fT {p:Pg}{L:bj}(nm:bl)(w:World)(h:jh p L w):
  zP 212 #[tv p.cells,tm nm] w (Z U (nJ p nm)):=by
 obtain⟨N,e⟩:=zE w.heap.size;unfold Pg.cells;obtain⟨W1,d⟩:=zE (w.alloc (tA #[tn (tf ⟨p.pA,0,th⟩) 1 p.pC,tn (tf ⟨p.qA,0,th⟩) 1 p.qC] 179));have f:=ik d e;have g:W1.heap[N]?=tf (tA #[tn (tf ⟨p.pA,0,th⟩) 1 p.pC,tn (tf ⟨p.qA,0,th⟩) 1 p.qC] 179 (0,0)):=by rw[<-d,<-e];exact alloc_at _ _
 obtain⟨⟨c0,c1⟩,_,u⟩:=bZ g;have j:=h.grow (by rw[e];exact f);have v:=j.s 0 _ rfl;obtain⟨b,hb⟩:=zE (p.snm==nm);have x:(p.snm.toList==nm.toList)=b:=by rw[<-fx];exact hb
 have o:cg (nJ p nm=if b=ti then 0 else-1):=by unfold cg nJ;rw[hb]
 rw[o.out];have t:=zH d;have q:=zH f;clear h d f g j hb o;go_enter func212,ntmps212;go_wp2;rw[t.out];cases b with
 |true=>
  go_loop [5] (λk=>k= Z U 0) (λ_=>0)
  case atStart=>rfl
  case round=>
   obtain rfl:=hrel;go_wp2;go_ret;exact⟨rfl,q.out⟩
 |false=>
  go_loop [5] (λk=>k= Z U 0\/k= Z U 1) (λk=>1-(dp k).toNat)
  case atStart=>exact .inl rfl
  case round=>
   rcases hrel with rfl|rfl
   ·go_wp2
    go_round
    case rel=>exact .inr rfl
    case measure=>simp[dp]
   ·go_wp2
    go_ret;exact⟨rfl,q.out⟩
theorem nK {p:Pg}{L:bj}(nm:bl)(w:World)(h:jh p L w):
  zP 177 #[tv p.cells,tm nm] w (Z U (D6 p nm)):=by
 obtain⟨N,e⟩:=zE w.heap.size;unfold Pg.cells;obtain⟨W1,d⟩:=zE (w.alloc (tA #[tn (tf ⟨p.pA,0,th⟩) 1 p.pC,tn (tf ⟨p.qA,0,th⟩) 1 p.qC] 179));have g:=ik d e;have j:W1.heap[N]?=tf (tA #[tn (tf ⟨p.pA,0,th⟩) 1 p.pC,tn (tf ⟨p.qA,0,th⟩) 1 p.qC] 179 (0,0)):=by rw[<-d,<-e];exact alloc_at _ _
 obtain⟨⟨c0,c1⟩,_,v⟩:=bZ j;have o:=h.grow (by rw[e];exact g);have x:=o.f 0 _ rfl;obtain⟨b,hb⟩:=zE (p.nm==nm);have y:(p.nm.toList==nm.toList)=b:=by rw[<-fx];exact hb
 have q:cg (D6 p nm=if b=ti then 0 else-1):=by unfold cg D6;rw[hb]
 rw[q.out];have u:=zH d;have t:=zH g;clear h d g j o hb q;go_enter func177,ntmps177;go_wp2;rw[u.out];cases b with
 |true=>
  go_loop [5] (λk=>k= Z U 0) (λ_=>0)
  case atStart=>rfl
  case round=>
   obtain rfl:=hrel;go_wp2;go_ret;exact⟨rfl,t.out⟩
 |false=>
  go_loop [5] (λk=>k= Z U 0\/k= Z U 1) (λk=>1-(dp k).toNat)
  case atStart=>exact .inl rfl
  case round=>
   rcases hrel with rfl|rfl
   ·go_wp2
    go_round
    case rel=>exact .inr rfl
    case measure=>simp[dp]
   ·go_wp2
    go_ret;exact⟨rfl,t.out⟩
theorem D7 (a b:ml)(s t:bl)(w:World):(gt 10000 32 (tv #[tt a,tm s]) (tv #[tt b,tm t])).run am w= .ok (((a,s):Ty)==(b,t)) w:=by
 have d:am.underlying 32=tf (.struct (am.fieldsOf 32)):=by kernel_rfl
 have f:am.stoodInHeld 32=tj:=by kernel_rfl
 rw[show(10000:bj)=9999+1 from rfl,run_equalIn_agg w 9999 32 _ _ d f];simp only[Program.fieldsOf,dT];have e:(((a,s):Ty)==(b,t))=(a==b&&s.toList==t.toList):=by rw[<-fx];rfl
 rw[e];go_simp
 by_cases g:a=b<;>by_cases h:s.toList=t.toList<;>simp[g,h]
theorem qd (a:ml)(s:bl)(w:World):zP 266 #[tv #[tt a,tm s],tv #[tt a,tm s]] w (tt ti):=by
 have e:∀w,(gt 10000 32 (tv #[tt a,tm s]) (tv #[tt a,tm s])).run am w= .ok ti w:=λw=>by rw[D7];simp
 have f:am.eqGuardType am.depth 32=tj:=by kernel_rfl
 have hb:aE w.heap.size w ((w.alloc (tA #[tt a,tm s] 32)).alloc (tA #[tt a,tm s] 32)):=((aq _ _).alloc (cd _) _).alloc (by simp) _;have d:=zH hb;clear hb;go_enter func266,ntmps266;go_wp2;go_ret;exact⟨rfl,d.out⟩
theorem qf {c:bj}{p:Pg}{L:bj}{f0 f1 f2 f3 f4 f5 f6:cw}{sA:cC fg}{sC:bj}{S:bp Fd}(nm:bl)(w:World)(h:Ck c p L f0 f1 f2 f3 f4 f5 f6 sA sC S w)(u:p.snm=nm):
  zP 213 #[tr (tf ⟨c,0,th⟩),tv #[tt ti,tm nm]] w (tt ti):=by
 obtain⟨N,d⟩:=zE w.heap.size;obtain⟨W1,e⟩:=zE (w.alloc (tA #[tt ti,tm nm] 32));have j:=ik e d;have f:W1.heap[N]?=tf (tA #[tt ti,tm nm] 32 (0,0)):=by rw[<-e,<-d];exact alloc_at _ _
 have o:=ae f;have g:=h.grow (by rw[d];exact j);have t0:∀q:BW W1,q.w.cell? ⟨N,0,th⟩=tf (tt ti):=λq=>(rowAt ((q.h.block N o).trans f) 0 rfl).1;have t1:∀q:BW W1,q.w.cell? ⟨N,1,th⟩=tf (tm nm):=λq=>(rowAt ((q.h.block N o).trans f) 1 rfl).1;have c0:∀q:BW W1,q.w.cell? ⟨c,0,th⟩=tf (tn (tf ⟨p.pA,0,th⟩) 1 p.pC):=λq=>(rowAt (g.grow q.h).row 0 rfl).1;have c1:∀q:BW W1,q.w.cell? ⟨c,1,th⟩=tf (tn (tf ⟨p.qA,0,th⟩) 1 p.qC):=λq=>(rowAt (g.grow q.h).row 1 rfl).1;have t:∀q:BW W1,zP 212 #[tv p.cells,tm nm] q.w (Z U 0):=λq=>by
  have:=fT nm q.w (g.grow q.h).pg;unfold nJ at this;rw[u,kO] at this;exact this
 unfold Pg.cells at t;have v:=zH t;have x:=zH e;have y:=zH j;clear h u e j f g t;go_enter func213,ntmps213
 go_upto_region 1 with(fail)
 rw[x.out];refine zQ ?_
 repeat (go_big_quiet_step ((go_at_call 212;exact bg (v.out _))))
 refine dr ?_;rintro _ ⟨q,rfl⟩;go_wp2;go_ret;exact⟨rfl,by(try rw[d]);exact y.out.trans (q.h.mono (mA o))⟩
theorem yI {c:bj}{p:Pg}{L:bj}{f0 f1 f2 f3 f4 f5 f6:cw}{sA:cC fg}{sC:bj}{S:bp Fd}(nm:bl)(w:World)(_:Ck c p L f0 f1 f2 f3 f4 f5 f6 sA sC S w):
  zP 213 #[tr (tf ⟨c,0,th⟩),tv #[tt tj,tm nm]] w (tt ti):=by
 obtain⟨N,e⟩:=zE w.heap.size;obtain⟨W1,d⟩:=zE (w.alloc (tA #[tt tj,tm nm] 32));have g:=ik d e;have f:W1.heap[N]?=tf (tA #[tt tj,tm nm] 32 (0,0)):=by rw[<-d,<-e];exact alloc_at _ _
 have j:=ae f;have t0:∀q:BW W1,q.w.cell? ⟨N,0,th⟩=tf (tt tj):=λq=>(rowAt ((q.h.block N j).trans f) 0 rfl).1;have o:=zH d;have t:=zH g;clear d g f;go_enter func213,ntmps213
 go_upto_region 1 with(fail)
 rw[o.out];refine zQ ?_
 repeat (go_big_quiet_step (fail))
 refine dr ?_;rintro _ ⟨q,rfl⟩;go_wp2;go_ret;exact⟨rfl,by(try rw[e]);exact t.out.trans (q.h.mono (mA j))⟩
def jL (S:bp Fd)(nm:bl):cC Fd:=S.find? λf=>f.nm==nm
def D8:cC Fd->Ty
 |some f=>f.ty
 |none=>bG
def oO (S:bp Fd)(nm:bl):Ty:=D8 (jL S nm)
theorem kg {c:bj}{p:Pg}{L:bj}{f0 f1 f2 f3 f4 f5 f6:cw}{sA:cC fg}{sC:bj}{S:bp Fd}(nm:bl)(w:World)(h:Ck c p L f0 f1 f2 f3 f4 f5 f6 sA sC S w):
  zP 214 #[tr (tf ⟨c,0,th⟩),tm nm] w (.tuple #[tv #[tt (oO S nm).1,tm (oO S nm).2],tt (jL S nm).isSome]):=by
 obtain⟨N,q⟩:=zE w.heap.size;obtain⟨W1,z⟩:=zE (w.alloc (tA #[tt tj,tm ⟨#[]⟩] 32));have G:=ik z q;have J:W1.heap[N]?=tf (tA #[tt tj,tm ⟨#[]⟩] 32 (0,0)):=by rw[<-z,<-q];exact alloc_at _ _
 have t:=h.grow (by rw[q];exact G);have c9:W1.cell? ⟨c,9,th⟩=tf (tn sA S.length sC):=(rowAt t.row 9 rfl).1;have tW:=ae t.row;obtain⟨⟨t0,t1⟩,⟨q0,q1⟩,ua⟩:=bZ J;have tP:=zH t.seen;have ub:=t.ls;obtain⟨R,A⟩:=zE (jL S nm);obtain⟨Y,hY⟩:=zE (oO S nm);have tE:D8 R=Y:=by rw[<-hY,<-A];rfl
 rw[A,hY];have E:=zH A;have u:=zH tE;have tR:=zH z;have tG:=zH G;have tM:=zH J;clear h z G J t A hY tE;go_enter func214,ntmps214;go_wp2;rw[tR.out]
 go_loop [6] (λk=>∃j:bj,k= Z U (j:aw)/\j<=S.length/\jL (S.drop j) nm=R) (λk=>S.length-(dp k).toNat)
 case atStart=>exact⟨0,rfl,cM _,E.out⟩
 case round=>
  obtain⟨j,rfl,hj,f⟩:=hrel
  by_cases o:j<S.length
  ·have uc:(j:aw)<(S.length:aw):=by omega
   obtain⟨x,g⟩:∃x,S[j]?=tf x:=⟨_,ap o⟩
   have K:S.drop j=x::S.drop (j+1):=by
    rw[ij o];have:S[j]=x:=by rw[ap o] at g;exact cy g
    rw[this]
   rw[K] at f;unfold jL at f;obtain⟨b,ud,W,ue,v⟩:=tP.out (by intro e;rw[e] at o;simp at o);have k0:=v j x g 0 _ rfl;have k1:=v j x g 1 _ rfl;have k2:=v j x g 2 _ rfl;rw[i7] at k0;rw[W] at c9;obtain⟨d,y⟩:=zE (x.nm==nm);have up:(x.nm.toList==nm.toList)=d:=by rw[<-fx];exact y
   cases d with
   |true=>
    rw[List.find?_cons_of_pos (by exact y)] at f;subst f;have tD:cg (x.ty=Y):=u.out;clear E u g K v W y;go_wp2;(try simp only[cQ,Exit.then]);refine dk (aM rfl _ _ N 32 _ (0,0) _ rfl (aW tM.out) dT (by kernel_rfl)) rfl ?_;rw[<-tD.out];(try rw[q]);exact⟨rfl,(tG.out.setCell (by show N<=N;omega) _).setCell (by show N<=N;omega) _⟩
   |false=>
    rw[List.find?_cons_of_neg (by rw[y];simp)] at f;have HZ:cg (∃j':bj,eS .i64 ((j:aw)+1)= Z U (j':aw)/\j'<=S.length/\jL (S.drop j') nm=R):=⟨j+1,by simp,o,f⟩
    clear E u g K v W y f;go_wp2
    go_round
    case rel=>exact HZ.out
    case measure=>simp[dp];omega
  ·have tS:j=S.length:=by omega
   subst tS;rw[List.drop_length] at f;unfold jL at f;have tU:(th:cC Fd)=R:=f;subst tU;have tD:cg (bG=Y):=u.out;clear E u f;go_wp2;(try simp only[cQ,Exit.then]);refine dk (aM rfl _ _ N 32 _ (0,0) _ rfl (aW tM.out) dT (by kernel_rfl)) rfl ?_;rw[<-tD.out];(try rw[q]);exact⟨rfl,(tG.out.setCell (by show N<=N;omega) _).setCell (by show N<=N;omega) _⟩
theorem AP {c:bj}{p:Pg}{L:bj}{f0 f1 f2 f3 f4 f5 f6:cw}{sA:cC fg}{sC:bj}{S:bp Fd}(n:aw)(nm:bl)(q t:aw)(w:World)(h:Ck c p L f0 f1 f2 f3 f4 f5 f6 sA sC S w):
  zP 265 #[tr (tf ⟨c,0,th⟩),tv #[Z U 1,Z U n,tm nm,tm ⟨#[]⟩,tn th 0 0,Z U q,Z U t]] w (tv #[tt tj,tm ⟨#[]⟩]):=by
 obtain⟨N,f⟩:=zE w.heap.size;obtain⟨d,j⟩:=zE ((w.alloc (tA #[Z U 1,Z U n,tm nm,tm ⟨#[]⟩,tn th 0 0,Z U q,Z U t] 313)).alloc (tA #[tt tj,tm ⟨#[]⟩] 32));obtain⟨o,g⟩:=zE (d.alloc (tA #[tt tj,tm ⟨#[]⟩] 32));have u:=vg j f;have v:d.heap.size=N+2:=by rw[<-j];simp[f]
 have x:aE N w o:=by rw[<-g];exact u.alloc (by omega) _
 have y:o.heap.size=N+3:=by rw[<-g];simp[v]
 have z:o.heap[N]?=tf (tA #[Z U 1,Z U n,tm nm,tm ⟨#[]⟩,tn th 0 0,Z U q,Z U t] 313 (0,0)):=by
  rw[<-g];refine(cE _ _ N (by omega)).trans ?_;rw[<-j,<-f];exact i8 _ _ _
 have A:o.heap[N+1]?=tf (tA #[tt tj,tm ⟨#[]⟩] 32 (0,0)):=by
  rw[<-g];refine(cE _ _ (N+1) (by omega)).trans ?_;rw[<-j,<-f];exact im _ _ _
 have E:o.heap[N+2]?=tf (tA #[tt tj,tm ⟨#[]⟩] 32 (0,0)):=by rw[<-g,<-v];exact alloc_at _ _
 have G:=h.grow (by rw[f];exact u);have K:=h.grow (by rw[f];exact x);have R:=zH (dx d G);have hst:∀(c:dl cw),c.size=2->(dd ⟨d.heap.size,0,th⟩ [tt tj,tm ⟨#[]⟩] 0).run am (d.alloc (tA c 32))= .ok () (d.alloc (tA #[tt tj,tm ⟨#[]⟩] 32)):=λc W=>
  cr (P:=am) d 32 c #[tt tj,tm ⟨#[]⟩] (by show _=tf 2;kernel_rfl) W (by simp[cn])
 have tD:=zH hst;have tE:=zH j;have tG:=zH g;have tM:=zH x;have tU:=zH y;have tP:=zH z;have J:=zH A;have tR:=zH E;clear h j g u x y z A E G K hst;go_enter func265,ntmps265
 go_upto_region 3 with(go_at_call 178;rw[tE.out];refine R.out.mono ?_;rintro e d ⟨rfl,rfl⟩)
 have tS:=tD.out
 go_upto_region 4 with(fail)
 rw[tG.out];(try simp only[v]);clear tS;obtain⟨⟨a0,a1,a2,a3,a4,a5,a6⟩,_,tW⟩:=ed tP.out;obtain⟨⟨b0,b1⟩,⟨d0,d1⟩,ua⟩:=bZ J.out;obtain⟨⟨e0,e1⟩,_,ub⟩:=bZ tR.out;go_wp2;(try simp only[cQ,Exit.then]);refine dk (er (P:=am) rfl _ _ (N+1) 32 _ (0,0) _ rfl (aW J.out) dT rfl (by kernel_rfl)) rfl ?_;(try rw[f]);exact⟨rfl,(tM.out.setCell (by show N<=N+1;omega) _).setCell (by show N<=N+1;omega) _⟩
theorem AQ {c:bj}{p:Pg}{L:bj}{f0 f1 f2 f3 f4 f5 f6:cw}{sA:cC fg}{sC:bj}{S:bp Fd}(n:aw)(nm:bl)(t u:aw)(w:World)(h:Ck c p L f0 f1 f2 f3 f4 f5 f6 sA sC S w){d:Fd}(hl:jL S nm=tf d):
  zP 265 #[tr (tf ⟨c,0,th⟩),tv #[Z U 2,Z U n,tm nm,tm ⟨#[]⟩,tn th 0 0,Z U t,Z U u]] w (tv #[tt d.ty.1,tm d.ty.2]):=by
 obtain⟨N,j⟩:=zE w.heap.size;obtain⟨g,q⟩:=zE ((w.alloc (tA #[Z U 2,Z U n,tm nm,tm ⟨#[]⟩,tn th 0 0,Z U t,Z U u] 313)).alloc (tA #[tt tj,tm ⟨#[]⟩] 32));obtain⟨f,o⟩:=zE (g.alloc (tA #[tt tj,tm ⟨#[]⟩] 32));have y:=vg q j;have z:g.heap.size=N+2:=by rw[<-q];simp[j]
 have A:aE N w f:=by rw[<-o];exact y.alloc (by omega) _
 have tM:f.heap.size=N+3:=by rw[<-o];simp[z]
 have tP:f.heap[N]?=tf (tA #[Z U 2,Z U n,tm nm,tm ⟨#[]⟩,tn th 0 0,Z U t,Z U u] 313 (0,0)):=by
  rw[<-o];refine(cE _ _ N (by omega)).trans ?_;rw[<-q,<-j];exact i8 _ _ _
 have tR:f.heap[N+1]?=tf (tA #[tt tj,tm ⟨#[]⟩] 32 (0,0)):=by
  rw[<-o];refine(cE _ _ (N+1) (by omega)).trans ?_;rw[<-q,<-j];exact im _ _ _
 have tS:f.heap[N+2]?=tf (tA #[tt tj,tm ⟨#[]⟩] 32 (0,0)):=by rw[<-o,<-z];exact alloc_at _ _
 have h2:=h.grow (by rw[j];exact y);have E:=h.grow (by rw[j];exact A);have ur:=zH (dx g h2);have hst:∀(c:dl cw),c.size=2->(dd ⟨g.heap.size,0,th⟩ [tt tj,tm ⟨#[]⟩] 0).run am (g.alloc (tA c 32))= .ok () (g.alloc (tA #[tt tj,tm ⟨#[]⟩] 32)):=λc J=>
  cr (P:=am) g 32 c #[tt tj,tm ⟨#[]⟩] (by show _=tf 2;kernel_rfl) J (by simp[cn])
 have uv:=zH hst;have ux:=zH q;have vc:=zH o;have vd:=zH A;have vf:=zH tM;have tU:=zH tP;have tW:=zH tR;have vh:=zH tS;have vm:cg (∀W,aE f.heap.size f W->zP 176 #[tr (tf ⟨c,0,th⟩),tt ti,Z U 5,tv #[Z U t,Z U u]] W (tt ti)):=λW hW=>bQ 5 t u W (E.grow hW);have vp:cg (zP 214 #[tr (tf ⟨c,0,th⟩),tm nm] f (.tuple #[tv #[tt d.ty.1,tm d.ty.2],tt ti])):=by
  have:=kg nm f E;unfold oO at this;rw[hl] at this;exact this
 have ua:∀(w:World)(c:dl cw),c.size=2->(dd ⟨w.heap.size,0,th⟩ [tt d.ty.1,tm d.ty.2] 0).run am (w.alloc (tA c 32))= .ok () (w.alloc (tA #[tt d.ty.1,tm d.ty.2] 32)):=λw c J=>
  cr (P:=am) w 32 c #[tt d.ty.1,tm d.ty.2] (by show _=tf 2;kernel_rfl) J (by simp[cn])
 have vq:=zH ua;clear h q o y A tM tP tR tS h2 E hst hl ua;go_enter func265,ntmps265
 go_upto_region 3 with(go_at_call 178;rw[ux.out];refine ur.out.mono ?_;rintro e g ⟨rfl,rfl⟩)
 have vr:=uv.out
 go_upto_region 4 with(fail)
 rw[vc.out];(try simp only[z]);clear vr;obtain⟨⟨a0,a1,a2,a3,a4,a5,a6⟩,_,vt⟩:=ed tU.out;obtain⟨⟨b0,b1⟩,⟨d0,d1⟩,vu⟩:=bZ tW.out;obtain⟨⟨e0,e1⟩,_,xf⟩:=bZ vh.out
 go_upto_region 7 with(go_at_call 214;refine vp.out.mono ?_;rintro e K ⟨rfl,ub⟩;have vx:=zH ub;have vy:=vq.out K;clear ub)
 clear vy;obtain⟨G,R⟩:=zE K.heap.size;obtain⟨W5,v⟩:=zE (K.alloc (tA #[tt d.ty.1,tm d.ty.2] 32));rw[R,v];have x:=zD v vx;have tD:W5.heap[G]?=tf (tA #[tt d.ty.1,tm d.ty.2] 32 (0,0)):=by rw[<-v,<-R];exact alloc_at _ _
 have uc:=(x.block N vt).trans tU.out;have ud:=zH x;have we:=zH tD;have wg:=zH (vm.out W5 x);obtain⟨⟨x0,x1,x2,x3,x4,x5,x6⟩,_,_⟩:=ed uc;have wj:=ae tD;clear R v x tD uc
 go_upto_region 8 with(go_at_call 176;refine wg.out.mono ?_;rintro e w6 ⟨rfl,tE⟩;have ue:=zH (ud.out.trans (tE.mono ud.out.size));have wk:=zH tE;clear tE)
 have up:=(wk.out.block G wj).trans we.out;have tG:=(ue.out.block (N+1) vu).trans tW.out;have wl:=zH tG;obtain⟨⟨y0,y1⟩,_,_⟩:=bZ up;obtain⟨⟨b0,b1⟩,⟨d0,d1⟩,xj⟩:=bZ tG;have ws:cg (aE N w w6):=vd.out.trans (ue.out.mono (by rw[vf.out];omega));clear up tG;go_wp2;(try simp only[cQ,Exit.then]);refine dk (er (P:=am) rfl _ _ (N+1) 32 _ (0,0) _ rfl (aW wl.out) dT rfl (by kernel_rfl)) rfl ?_;(try rw[j]);exact⟨rfl,(ws.out.setCell (by show N<=N+1;omega) _).setCell (by show N<=N+1;omega) _⟩
theorem AR {c:bj}{p:Pg}{L:bj}{f0 f1 f2 f3 f4 f5 f6:cw}{sA:cC fg}{sC:bj}{S:bp Fd}(n:aw)(nm:bl)(o t:aw)(w:World)(h:Ck c p L f0 f1 f2 f3 f4 f5 f6 sA sC S w)(K:p.snm=nm):
  zP 265 #[tr (tf ⟨c,0,th⟩),tv #[Z U 7,Z U n,tm nm,tm ⟨#[]⟩,tn th 0 0,Z U o,Z U t]] w (tv #[tt ti,tm nm]):=by
 obtain⟨N,g⟩:=zE w.heap.size;obtain⟨f,u⟩:=zE ((w.alloc (tA #[Z U 7,Z U n,tm nm,tm ⟨#[]⟩,tn th 0 0,Z U o,Z U t] 313)).alloc (tA #[tt tj,tm ⟨#[]⟩] 32));obtain⟨d,j⟩:=zE (f.alloc (tA #[tt tj,tm ⟨#[]⟩] 32));have y:=vg u g;have z:f.heap.size=N+2:=by rw[<-u];simp[g]
 have A:aE N w d:=by rw[<-j];exact y.alloc (by omega) _
 have R:d.heap.size=N+3:=by rw[<-j];simp[z]
 have W:d.heap[N]?=tf (tA #[Z U 7,Z U n,tm nm,tm ⟨#[]⟩,tn th 0 0,Z U o,Z U t] 313 (0,0)):=by
  rw[<-j];refine(cE _ _ N (by omega)).trans ?_;rw[<-u,<-g];exact i8 _ _ _
 have tD:d.heap[N+1]?=tf (tA #[tt tj,tm ⟨#[]⟩] 32 (0,0)):=by
  rw[<-j];refine(cE _ _ (N+1) (by omega)).trans ?_;rw[<-u,<-g];exact im _ _ _
 have tE:d.heap[N+2]?=tf (tA #[tt tj,tm ⟨#[]⟩] 32 (0,0)):=by rw[<-j,<-z];exact alloc_at _ _
 have h2:=h.grow (by rw[g];exact y);have v:=h.grow (by rw[g];exact A);have tM:=zH (dx f h2);have hst:∀(c:dl cw),c.size=2->(dd ⟨f.heap.size,0,th⟩ [tt tj,tm ⟨#[]⟩] 0).run am (f.alloc (tA c 32))= .ok () (f.alloc (tA #[tt tj,tm ⟨#[]⟩] 32)):=λc hc=>
  cr (P:=am) f 32 c #[tt tj,tm ⟨#[]⟩] (by show _=tf 2;kernel_rfl) hc (by simp[cn])
 have tP:=zH hst;have tR:=zH u;have tS:=zH j;have tU:=zH A;have tW:=zH R;have x:=zH W;have tG:=zH tD;have ua:=zH tE;have ub:cg (∀q:BW d,zP 176 #[tr (tf ⟨c,0,th⟩),tt ti,Z U 5,tv #[Z U o,Z U t]] q.w (tt ti)):=λq=>bQ 5 o t q.w (v.grow q.h);have E:∀q:BW d,zP 212 #[tv p.cells,tm nm] q.w (Z U 0):=λq=>by
  have:=fT nm q.w (v.grow q.h).pg;unfold nJ at this;rw[K,kO] at this;exact this
 unfold Pg.cells at E;have uc:=zH E;have c0:∀q:BW d,q.w.cell? ⟨c,0,th⟩=tf (tn (tf ⟨p.pA,0,th⟩) 1 p.pC):=λq=>(rowAt (v.grow q.h).row 0 rfl).1;have c1:∀q:BW d,q.w.cell? ⟨c,1,th⟩=tf (tn (tf ⟨p.qA,0,th⟩) 1 p.qC):=λq=>(rowAt (v.grow q.h).row 1 rfl).1;have C0:=zH c0;have C1:=zH c1;clear h u j y A R W tD tE h2 v hst K E c0 c1;go_enter func265,ntmps265
 go_upto_region 3 with(go_at_call 178;rw[tR.out];refine tM.out.mono ?_;rintro e f ⟨rfl,rfl⟩)
 have ud:=tP.out
 go_upto_region 4 with(fail)
 rw[tS.out];(try simp only[z]);clear ud;obtain⟨⟨a0,a1,a2,a3,a4,a5,a6⟩,_,G⟩:=ed x.out;obtain⟨⟨b0,b1⟩,⟨d0,d1⟩,ue⟩:=bZ tG.out;obtain⟨⟨e0,e1⟩,_,uv⟩:=bZ ua.out
 go_upto_region 26 with(fail)
 clear a0 a1 a2 a3 a4 a5 a6 b0 b1 d0 d1 e0 e1;have c0:=C0.out;have c1:=C1.out;have x2:∀q:BW d,q.w.cell? ⟨N,2,th⟩=tf (tm nm):=λq=>(rowAt ((q.h.block N G).trans x.out) 2 rfl).1;have x5:∀q:BW d,q.w.cell? ⟨N,5,th⟩=tf (Z U o):=λq=>(rowAt ((q.h.block N G).trans x.out) 5 rfl).1;have x6:∀q:BW d,q.w.cell? ⟨N,6,th⟩=tf (Z U t):=λq=>(rowAt ((q.h.block N G).trans x.out) 6 rfl).1;refine zQ ?_
 repeat (go_big_quiet_step (first
  |(go_at_call 212;exact bg (uc.out _))
  |(go_at_call 176;exact bg (ub.out _))))
 refine dr ?_;rintro _ ⟨q,rfl⟩;have z2:=x2 q;have J:=(q.h.block (N+1) ue).trans tG.out;have up:=zH J;obtain⟨⟨b0,b1⟩,⟨d0,d1⟩,ux⟩:=bZ J;have ur:cg (aE N w q.w):=tU.out.trans (q.h.mono (by rw[tW.out];omega));clear c0 c1 x2 x5 x6 J;go_wp2;(try simp only[cQ,Exit.then]);refine dk (er (P:=am) rfl _ _ (N+1) 32 _ (0,0) _ rfl (aW up.out) dT rfl (by kernel_rfl)) rfl ?_;(try rw[g]);exact⟨rfl,(ur.out.setCell (by show N<=N+1;omega) _).setCell (by show N<=N+1;omega) _⟩
end Go.Proofs.YtjomgckjhcfbgaaGreat
