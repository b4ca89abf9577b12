/- Walks. -/
import Derived.Test.YtjomgckjhcfbgaaGreatU2
set_option maxRecDepth 100000
set_option maxHeartbeats 64000000
set_option linter.all false
namespace Go.Proofs.YtjomgckjhcfbgaaGreat
open Go.RowKit
open Go.Proofs.Tryz renaming prog→am,underlying3→dl,underlying32→eM,underlying263→im,underlying88→iu,underlying40→nh,underlying90→oB,underlying113→pw
open _root_.List renaming getElem?_eq_getElem→ap,getElem?_eq_some_iff→bl,length_append→bo,mem_append→cX,map_append→dp,append_assoc→eq,flatMap_cons→fW,flatMap_append→gn,getElem?_append_right→hZ,drop_eq_getElem_cons→jn,length_pos_iff→ms,getElem?_append_left→mB
open Go.RowKit.Below renaming refl→aq,heap_alloc→cJ,heap_setCell→dg
open _root_ renaming Int→aw,Nat→bh,List→bj,ByteArray→bm,Option→cG,beq_eq_false_iff_ne→cT,Array→eA,beq_self_eq_true→iS,False→me,Bool→mm,decide_eq_true_eq→oE,beq_iff_eq→tt
open Go.RowKit renaming Below→aE,Hid→cj,intOf→de,ownsRow_setCell_below→lR
open Go renaming heap_setCell_same→bk,cell_of_row→bw,run_storeCells_new→cx,Value→cA,wpQuiet_nil→dj,storeCells→dt,bodyPost_ret→er,maxLen→eC,results_cell_row→fk,Addr→fS,beq_toListBytes→fY,Calls→ge,TypeId→gt,heap_alloc2_new→jp,run_underlying→j9,heap_alloc2_old→kp,info_parts→kB
open _root_.Nat renaming le_refl→cg,lt_of_lt_of_le→cH,zero_add→cL,zero_le→cN,le_trans→eJ,add_zero→ki,le_of_lt→nx,succ_mul→sq
open Go.Value renaming oneCell'→ct,ownBlock→et,int→eS,string→tS,slice→tU,pointer→tW,bool→ua,agg→ub,int→Z
open _root_.Option.some renaming inj→cE,injEq→dd
open Go.Addr renaming add_lit→cY
open Go.Exit renaming inBlock→dk
open Go.Addr.mk renaming injEq→eR
open Go.Value.slice renaming injEq→fm
open Go.Sem renaming run_bind→fX
open Go.Op renaming equalIn→gE
open _root_.Option renaming map_eq_some_iff→ip,some→tG,none→tM
open Go.Instr renaming field→pP
open _root_.Bool renaming true→tP,false→tR
open Go.Obj renaming cells→uc
open Go.Ending renaming returned→ud
open Go.IntKind renaming i64→U
open Tryz
def mZ:bm:=⟨#[123]⟩
def jB:bm:=⟨#[125]⟩
inductive lJ (T:bj Tok) (i:bh):qD->bh->Prop
 |ret (t z:Tok) (e:Ex) (k:bh):T[i]?=tG t->dQ t rJ=tP->fO T (i+1) e k->T[k]?=tG z->dQ z dV=tP->lJ T i ⟨8,bM,⟨#[]⟩,[e]⟩ (k+1)
 |free (t u x v z:Tok):T[i]?=tG t->dQ t Dv=tP->T[i+1]?=tG u->dQ u fM=tP->T[i+2]?=tG x->x.kind=1->T[i+3]?=tG v->dQ v oH=tP->T[i+4]?=tG z->dQ z dV=tP->lJ T i ⟨9,bM,x.text,[]⟩ (i+5)
 |decl (t u x v z:Tok) (e:Ex) (k:bh):T[i]?=tG t->t.kind=1->T[i+1]?=tG u->dQ u jY=tP->u.kind=4->T[i+2]?=tG x->x.kind=1->T[i+3]?=tG v->dQ v IL=tP->fO T (i+4) e k->T[k]?=tG z->dQ z dV=tP->
   lJ T i ⟨1,(tP,t.text),x.text,[e]⟩ (k+1)
theorem xM {r lb cap:bh}{T:bj Tok}{i k:bh}{K:qD}(d:aw)(w:World)(h:Rd r lb cap T i w)(R:lJ T i K k):
  ge am 243 #[tW (tG ⟨r,0,tM⟩),Z U d] w (iZ r lb cap T w K k):=by
 cases R with
 |ret t z e k f g j o q=>exact BX d w h f g j o q
 |free t u x v z f g j o q y A E G J=>exact zB d w h f g j o q y A E G J
 |decl t u x v z e k f g j o q y A E G J ue up=>exact zC d w h f g j o q y A E G J ue up
theorem lJ.first {T:bj Tok}{i k:bh}{j:qD}(h:lJ T i j k):∃t,T[i]?=tG t/\dQ t jB=tR/\i<k:=by
 cases h with
 |ret t z e k d f g o q=>exact⟨t,d,jZ f (by decide),by have:=g.first;obtain⟨_,_,_,h⟩:=this;omega⟩
 |free t u x v z d f=>exact⟨t,d,jZ f (by decide),by omega⟩
 |decl t u x v z e k d f g o q A E G J y=>exact⟨t,d,mi f,by have:=y.first;obtain⟨_,_,_,h⟩:=this;omega⟩
inductive ja (T:bj Tok):bh->bj qD->bh->Prop
 |nil (i:bh):ja T i [] i
 |cons (i j k:bh) (sh:qD) (l:bj qD):lJ T i sh j->ja T j l k->ja T i (sh::l) k
theorem own_ne {w:World}{base:bh}{e t:gt}{size n k:bh}{v:cA}{xs:bj cA}{o:eA cA}{q:bh×bh}(h:w.ownsRow base e size v n xs)(u:w.heap[k]?=tG (uc o t q))(x:t≠e):¬v.ownBlock=tG k:=by
 intro d;rcases h.2 with⟨f,_⟩|⟨g,cap,z,f,_,j,_⟩
 ·rw[f] at d;cases d
 ·rw[f] at d
  have y:g=k:=by simpa[et] using d
  subst y;rw[u] at j;simp only[dd,Obj.cells.injEq] at j;exact x j.2.1
theorem Sm.inn.own {B base n:bh}{w w':World}{s:Sm}{v:cA}{xs:bj cA}(h:s.inn B w)(e:w.ownsRow base 282 9 v n xs)(f:Ext (λk=>v.ownBlock=tG k) w w'):s.inn B w':=by
 rcases h with h|⟨g,cap,j,o,d⟩
 ·exact .inl h
 ·exact .inr ⟨g,cap,j,o,f.heap d (own_ne e d (by decide))⟩
def sI (r:bh)(T:bj Tok)(w:World):bh:=match w.cell? ⟨r,1,tM⟩ with
 |some (.int _ j)=>T.length-j.toNat
 |_=>0
theorem gH {r lb cap:bh}{T:bj Tok}{j:bh}{w:World}(h:Rd r lb cap T j w):sI r T w=T.length-j:=by
 unfold sI;rw[h.cells.2.1];simp
theorem ja.le {T:bj Tok}{i k:bh}{l:bj qD}(h:ja T i l k):i<=k:=by
 induction h with
 |nil=>exact cg _
 |cons i j k e l d _ ih=>obtain⟨_,_,_,h⟩:=d.first;omega
def IM (s:Sm):bj cA:=s.cells.toList
theorem Gx (s:Sm)(d:cG fS)(e f:bh)(h:s.E= tU d e f):∀u∈s.cells.toList,u.oneCell'=tP:=by
 unfold Sm.cells;rw[h];simp[ct]
theorem Eb:(am.info? 282).map (λi=>(i.zero,i.size,i.bytes))=tG (tG (ub #[Z U 0,ua tR,tS ⟨#[]⟩,tS ⟨#[]⟩,tU tM 0 0,tU tM 0 0,tU tM 0 0,Z U 0,Z U 0]),9,136):=by kernel_rfl
def zF (r lb cap:bh)(T:bj Tok)(w:World)(f:bj qD)(k:bh)(e:Ending)(w':World):Prop:=
 ∃(v:cA) (d:bj Sm),e= ud v/\d.map Sm.shp=f/\w'.ownsRow w.heap.size 282 9 v d.length (d.flatMap IM)/\(∀s∈d,s.inn w.heap.size w')/\bQ r lb cap T k w w'
def Il (r lb cap:bh)(T:bj Tok)(w:World)(e:bj qD)(k j:bh)(v:cA)(wr:World):Prop:=
 ∃(d:bj Sm) (l:bj qD),d.map Sm.shp++l=e/\ja T j l k/\wr.ownsRow w.heap.size 282 9 v d.length (d.flatMap IM)/\(∀s∈d,s.inn w.heap.size wr)/\bQ r lb cap T j w wr/\d.length<=j
theorem uN {r lb cap:bh}{T:bj Tok}{i k:bh}{t z:Tok}{ur:bj qD}(d:aw)(AE:0<=d)(hd:d<=100)(w:World)(h:Rd r lb cap T i w)(R:T[i]?=tG t)(ho:dQ t mZ=tP)(g:ja T (i+1) ur k)(hz:T[k]?=tG z)(hk:dQ z jB=tP):
  ge am 210 #[tW (tG ⟨r,0,tM⟩),Z U d] w (zF r lb cap T w ur (k+1)):=by
 have ux:=zH (bF mZ w h R);rw[ho] at ux;unfold mZ at ux;have xT:cj (∀W,aE w.heap.size w W->zS 242 #[tW (tG ⟨r,0,tM⟩),Z U (d+1)] W (ua tP)):=λW f=>uH (d+1) W (h.grow f) (by omega);have vt:cj (∀(j:bh)(t:Tok) W,T[j]?=tG t->Rd r lb cap T j W->zP 172 #[tW (tG ⟨r,0,tM⟩),tS ⟨#[125]⟩] W (ua (dQ t jB))):=λj t W R f=>bF jB W f R;have yb:cj (∀(j:bh) W,Rd r lb cap T j W->zS 171 #[tW (tG ⟨r,0,tM⟩)] W (ua tR)):=λj W f=>bI W f;have yd:cj (∀(j k:bh)(sh:qD) W,Rd r lb cap T j W->lJ T j sh k->ge am 243 #[tW (tG ⟨r,0,tM⟩),Z U (d+1)] W (iZ r lb cap T W sh k)):=λj k sh W f g=>xM (d+1) W f g;have ye:cj (∀W,Rd r lb cap T k W->ge am 207 #[tW (tG ⟨r,0,tM⟩),tS ⟨#[125]⟩] W λe w'=>e= ud (.tuple #[])/\bQ r lb cap T (k+1) W w'):=λW f=>bi jB W f hz hk;have AF:i<T.length:=(bl.1 R).1;have hT:=h.short;have AH:=h.rlt;have AI:=h.lt;have H:=zH h;have HS:=zH g;have HZ:=zH hz;have HK:=zH hk;obtain⟨i0,yi,yk,yp,yq⟩:=kB Eb;clear h R ho g hz hk;go_enter func210,ntmps210
 go_upto_region 6 with(first
  |(go_at_call 172;refine ux.out.mono ?_;rintro e w2 ⟨rfl,vu⟩;have vc:=zH vu;clear vu)
  |(go_at_call 242;refine(xT.out w2 vc.out).mono ?_;rintro e w3 ⟨rfl,rfl⟩))
 have h2:=H.out.grow vc.out;obtain⟨c0,c1,c3,f1,hr⟩:=h2.cells;have vx:bQ r lb cap T (i+1) w (w2.setCell ⟨r,1,tM⟩ (Z U ((i:aw)+1))):=⟨h2.step,(Ext.of_below_size (M:=(·=r)) vc.out).trans (Ext.set1 w2 r 1 _) (λk hk=> .inl hk)⟩
 have vy:=zH vx;clear h2 vx
 go_upto_region 7 with(fail)
 obtain⟨W0,vd⟩:=zE (w2.setCell ⟨r,1,tM⟩ (Z U ((i:aw)+1)));rw[vd];rw[vd] at vy;clear vd c0 c1 c3 f1 hr
 go_loopw [5] (λv wr=>∃j:bh,Il r lb cap T w ur k j v wr) (λ_ wr=>sI r T wr)
 case atStart=>exact⟨i+1,[],ur,rfl,HS.out,World.ownsRow_nil _ _ _ _,by simp,vy.out,by simp⟩
 case round=>
  obtain⟨j,x,l,hl,we,vf,vh,y,AK⟩:=hrel;have yr:=zH (gH y.1);have AM:j<=1000000:=by
   have:=we.le;have:=(bl.1 HZ.out).1;omega
  have HL:=zH hl;have vm:=zH vf;have wg:=zH vh;have HM:=zH y;cases we with
  |nil=>
   have ue:=zH (vt.out k z wr HZ.out y.1);rw[HK.out] at ue;clear hl vf vh y
   go_upto_region 9 with(go_at_call 172;refine ue.out.mono ?_;rintro e A ⟨rfl,up⟩;have o:=zH up;clear up)
   have wj:=HM.out.grow o.out;have G:=zH wj;clear wj
   go_wp2_with (go_at_call 207;refine(ye.out A G.out.1).mono ?_;rintro e w5 ⟨rfl,u⟩;have J:=zH u;clear u)
   go_ret;refine⟨_,x,rfl,by rw[<-HL.out];simp, ?_, ?_,G.out.trans J.out⟩
   ·refine ah (ownsRow_below vm.out o.out) J.out.2 (λq hq=> ?_)
    have:=(ai vm.out hq).1;omega
   ·intro s g
    exact((wg.out s g).ext (Ext.of_below_size (M:=λ_=>me) o.out) (λ_ _ _ h=>h)).ext J.out.2 (λq h1 _=>by omega)
  |cons _ j2 _ sh l2 vp vq=>
   obtain⟨t1,wk,wl,AN⟩:=vp.first
   have ue:=zH (vt.out j t1 wr wk y.1);rw[wl] at ue;have yv:=zH (yb.out j);have yy:=zH (λW f=>yd.out j j2 sh W f vp);have yW:=zH vq;have AS:j2<=T.length:=eJ vq.le (nx (bl.1 HZ.out).1);clear hl vf vh y vp vq wk wl
   go_upto_region 8 with(first
    |(go_at_call 172;refine ue.out.mono ?_;rintro e A ⟨rfl,up⟩;have o:=zH up;clear up)
    |(go_at_call 171;refine(yv.out A (HM.out.1.grow o.out)).mono ?_;rintro e w5 ⟨rfl,rfl⟩))
   have ws:=zH (ownsRow_below vm.out o.out);have zc:cj (∀s∈x,s.inn w.heap.size A):=λs g=>(wg.out s g).ext (Ext.of_below_size (M:=λ_=>me) o.out) (λ_ _ _ h=>h);have G:=zH (HM.out.grow o.out);have xf:w.heap.size<=A.heap.size:=G.out.2.size;have AT:x.length<=1000000:=by omega
   go_wp2_with (first
    |(go_at_call 243;refine(yy.out A G.out.1).mono ?_;rintro e w5 ⟨s,rfl,xj,vr,u⟩;obtain⟨zj,en,ec,hE⟩:=vr.slice;have xo:=zH (Gx s zj en ec hE);have K:=zH (ah ws.out u.2 (λq hq=>by have:=(ai ws.out hq).1;omega));have zp:cj (∀s∈x,s.inn w.heap.size w5):=(λs g=>(zc.out s g).ext u.2 (λq h1 _=>by omega));have zs:=zH (vr.mono xf);have J:=zH (G.out.trans u);have zv:=zH xj;have An:w.heap.size<=w5.heap.size:=eJ xf u.2.size;clear xj vr u hE;unfold Sm.cells at xo⊢)
    |(at_builtin;refine gF rfl (.tmp 34) (.tmp 39) 231 rfl w.heap.size 282 i0 _ 9 136 underlying231 yi yk yp yq rfl (by decide) _ x.length (x.flatMap IM) rfl K.out w5.heap.size #[Z U s.kind,ua s.ty.1,tS s.ty.2,tS s.nm,s.E,tU tM 0 0,tU tM 0 0,Z U s.ln,Z U s.cl] rfl rfl rfl xo.out (by unfold eC;omega) (by omega) An ?_;intro v7 w7 xp uv At;have Ax:=zH xp;have xt:=zH uv;have xF:cj (bQ r lb cap T j2 w w7):=(⟨J.out.1.ext uv (λh=>by have:=(ai K.out h).1;omega) (λh=>by have:=(ai K.out h).1;omega),J.out.2.trans uv (λq hq=> .inr (ai K.out hq).1)⟩:bQ r lb cap T j2 w w7);clear xp uv At))
   go_roundw
   case rel=>
    refine⟨j2,x++[s],l2, ?_,yW.out, ?_, ?_,xF.out,by rw[bo];simp;omega⟩
    ·rw[dp,eq,<-HL.out,<-zv.out];rfl
    ·rw[gn,bo]
     exact Ax.out
    ·intro s' AD
     rcases cX.1 AD with h|h
     ·exact(zp.out s' h).own K.out xt.out
     ·obtain rfl:s'=s:=by simpa using h
      exact zs.out.own K.out xt.out
   case measure=>
    rw[gH xF.out.1,yr.out];omega
theorem Fs (a:aw)(s:bm)(n d e:aw)(W:World):(pP 263 (ub #[Z U a,tS s,Z U n,Z U d,Z U e]) 3).run am W= .ok (ub #[Z U d,Z U e]) W:=by
 have f:=im;have g:(am.info? 40).map (·.size)=tG 2:=by kernel_rfl
 have h:=nh;unfold pP;rw[fX,j9 f W];obtain⟨i,hi,j⟩:=ip.1 g;simp[asAgg,part,go_sem,isAgg,sizeOf,typeInfo,hi,j,fX,j9 h W]
theorem sJ (a:aw)(s:bm)(n d e:aw)(W:World):(pP 263 (ub #[Z U a,tS s,Z U n,Z U d,Z U e]) 0).run am W= .ok (Z U a) W:=by
 have f:=im;have g:=dl;unfold pP;rw[fX,j9 f W];simp[asAgg,part,go_sem,isAgg,fX,j9 g W]
def jO:bm:=⟨#[115,116,114,117,99,116]⟩
inductive iJ (T:bj Tok):bh->bj (bm×Ty)->bh->Prop
 |nil (i:bh):iJ T i [] i
 |cons (i j k:bh) (y:Ty) (x z:Tok) (l:bj (bm×Ty)):xH T i y j->T[j]?=tG x->x.kind=1->T[j+1]?=tG z->dQ z dV=tP->iJ T (j+2) l k->iJ T i ((x.text,y)::l) k
theorem xH.first {T:bj Tok}{i k:bh}{y:Ty}(h:xH T i y k):∃t,T[i]?=tG t/\dQ t jB=tR/\i<k:=by
 cases h with
 |int t d e=>exact⟨t,d,jZ e (by decide),by omega⟩
 |ptr t u d e=>exact⟨t,d,mi e,by omega⟩
theorem iJ.le {T:bj Tok}{i k:bh}{l:bj (bm×Ty)}(h:iJ T i l k):i<=k:=by
 induction h with
 |nil=>exact cg _
 |cons i j k y x z l d _ _ _ _ _ ih=>obtain⟨_,_,_,h⟩:=d.first;omega
def Fd.shp (f:Fd):bm×Ty:=(f.nm,f.ty)
def uA (f:Fd):bj cA:=f.cells.toList
theorem Dw:(am.info? 92).map (λi=>(i.zero,i.size,i.bytes))=tG (tG (ub #[tS ⟨#[]⟩,ua tR,tS ⟨#[]⟩,Z U 0,Z U 0]),5,56):=by kernel_rfl
def Dx (r lb cap:bh)(T:bj Tok)(w:World)(nm:bm)(l:bj (bm×Ty))(k:bh)(e:Ending)(w':World):Prop:=
 ∃(ao:cG fS) (c:bh) (fs:bj Fd) (d f:aw),e= ud (ub #[tS nm,tU ao fs.length c,Z U d,Z U f])/\fs.map Fd.shp=l/\w'.ownsRow w.heap.size 92 5 (tU ao fs.length c) fs.length (fs.flatMap uA)/\bQ r lb cap T k w w'
def Jk (r lb cap:bh)(T:bj Tok)(w:World)(nm:bm)(l:bj (bm×Ty))(e f:aw)(k B j:bh)(wr:World):Prop:=
 ∃(ao:cG fS) (c:bh) (fs:bj Fd) (d:bj (bm×Ty)),fs.map Fd.shp++d=l/\iJ T j d k/\wr.heap[B]?=tG (uc #[tS nm,tU ao fs.length c,Z U e,Z U f] 90 (0,0))/\
  wr.ownsRow (B+1) 92 5 (tU ao fs.length c) fs.length (fs.flatMap uA)/\bQ r lb cap T j w wr/\fs.length<=j/\wr.heap[w.heap.size]?=tG (uc #[tS ⟨#[]⟩,tU tM 0 0,Z U 0,Z U 0] 90 (0,0))
theorem oI {r lb cap:bh}{T:bj Tok}{i k:bh}{t u x z z2:Tok}{l:bj (bm×Ty)}(w:World)(h:Rd r lb cap T i w)(R:T[i]?=tG t)(AF:dQ t jO=tP)(hx:T[i+1]?=tG x)(AH:x.kind=1)(hu:T[i+2]?=tG u)(AI:dQ u mZ=tP)
  (hl:iJ T (i+3) l k)(hz:T[k]?=tG z)(g:dQ z jB=tP)(AK:T[k+1]?=tG z2)(AM:dQ z2 dV=tP):
  ge am 173 #[tW (tG ⟨r,0,tM⟩)] w (Dx r lb cap T w x.text l (k+2)):=by
 obtain⟨N,o⟩:=zE w.heap.size;obtain⟨W1,ur⟩:=zE (w.alloc (uc #[tS ⟨#[]⟩,tU tM 0 0,Z U 0,Z U 0] 90));have ws:=iR ur o;have AN:W1.heap.size=N+1:=by rw[<-ur];simp[o]
 have uv:W1.heap[N]?=tG (uc #[tS ⟨#[]⟩,tU tM 0 0,Z U 0,Z U 0] 90 (0,0)):=by rw[<-ur,<-o];exact alloc_at _ _
 have h1:=h.grow (by rw[o];exact ws);have AS:=zH (bJ W1 h1 R);have AT:cj (∀W,Rd r lb cap T i W->ge am 207 #[tW (tG ⟨r,0,tM⟩),tS jO] W λe w'=>e= ud (.tuple #[])/\bQ r lb cap T (i+1) W w'):=λW f=>bi jO W f R AF;have Do:cj (∀W,Rd r lb cap T (i+1) W->ge am 208 #[tW (tG ⟨r,0,tM⟩)] W λe w'=>e= ud (.tuple #[tS x.text,ub #[Z U x.ln,Z U x.cl]])/\bQ r lb cap T (i+2) W w'):=λW f=>eP W f hx AH;have AW:cj (∀W,Rd r lb cap T (i+2) W->ge am 207 #[tW (tG ⟨r,0,tM⟩),tS mZ] W λe w'=>e= ud (.tuple #[])/\bQ r lb cap T (i+3) W w'):=λW f=>bi mZ W f hu AI;have A0:cj (∀W,Rd r lb cap T k W->ge am 207 #[tW (tG ⟨r,0,tM⟩),tS jB] W λe w'=>e= ud (.tuple #[])/\bQ r lb cap T (k+1) W w'):=λW f=>bi jB W f hz g;have A1:cj (∀(j:bh)(z:Tok) W,T[j]?=tG z->dQ z dV=tP->Rd r lb cap T j W->ge am 207 #[tW (tG ⟨r,0,tM⟩),tS ⟨#[59]⟩] W λe w'=>e= ud (.tuple #[])/\bQ r lb cap T (j+1) W w'):=λj z W hz g f=>bi dV W f hz g;have Ds:=zH (λW=>A1.out (k+1) z2 W AK AM);have A2:cj (∀(j:bh)(t:Tok) W,T[j]?=tG t->Rd r lb cap T j W->zP 172 #[tW (tG ⟨r,0,tM⟩),tS ⟨#[125]⟩] W (ua (dQ t jB))):=λj t W R f=>bF jB W f R;have DA:cj (∀(j:bh) W,Rd r lb cap T j W->zS 171 #[tW (tG ⟨r,0,tM⟩)] W (ua tR)):=λj W f=>bI W f;have DB:cj (∀(j k:bh)(y:Ty) W,xH T j y k->Rd r lb cap T j W->ge am 209 #[tW (tG ⟨r,0,tM⟩)] W λe w'=>e= ud (ub #[ua y.1,tS y.2])/\bQ r lb cap T k W w'):=λj k y W hy f=>qB W f hy;have DE:cj (∀(j:bh)(x:Tok) W,T[j]?=tG x->x.kind=1->Rd r lb cap T j W->ge am 208 #[tW (tG ⟨r,0,tM⟩)] W λe w'=>e= ud (.tuple #[tS x.text,ub #[Z U x.ln,Z U x.cl]])/\bQ r lb cap T (j+1) W w'):=λj x W hx g f=>eP W f hx g;unfold jO at AT;unfold mZ at AW;unfold jB at A0;simp only[Tok.cells] at AS;have hst:∀(w:World)(c:eA cA),c.size=4->(dt ⟨w.heap.size,0,tM⟩ [tS ⟨#[]⟩,tU tM 0 0,Z U t.ln,Z U t.cl] 0).run am (w.alloc (uc c 90))= .ok () (w.alloc (uc #[tS ⟨#[]⟩,tU tM 0 0,Z U t.ln,Z U t.cl] 90)):=λw c hc=>
  cx (P:=am) w 90 c #[tS ⟨#[]⟩,tU tM 0 0,Z U t.ln,Z U t.cl] (by show _=tG 4;kernel_rfl) hc (by simp[ct])
 have DG:=zH hst;have GW:i<T.length:=(bl.1 R).1;have hT:=h.short;have G4:r<N:=by rw[<-o];exact h.rlt
 have vm:cj (lb<N):=by unfold cj;rw[<-o];exact h.lt
 have DH:=zH ur;have DM:=zH ws;have A3:=zH AN;have DO:=zH uv;have H1:=zH h1;have DP:=zH hl;have HZ:=zH hz;have HK:=zH g;have HN:=zH o;obtain⟨i0,DQ,DS,D0,D1⟩:=kB Dw;clear h R AF hx AH hu AI hl hz g AK AM ur ws AN uv h1 hst;have D2:=λW=>Fs t.kind t.text t.n t.ln t.cl W;go_enter func173,ntmps173
 go_upto_region 2 with(go_at_call 170;rw[DH.out];refine AS.out.mono ?_;rintro e w2 ⟨rfl,A4⟩;have D3:=DG.out w2;have A5:=zH A4;clear A4)
 clear D3 D2;obtain⟨B,hB⟩:=zE w2.heap.size;obtain⟨W3,vp⟩:=zE (w2.alloc (uc #[tS ⟨#[]⟩,tU tM 0 0,Z U t.ln,Z U t.cl] 90));rw[hB,vp];have vq:=zD vp A5;have Hb:N+1<=B:=by rw[<-hB,<-A3.out];exact A5.out.size
 have ue:W3.heap[B]?=tG (uc #[tS ⟨#[]⟩,tU tM 0 0,Z U t.ln,Z U t.cl] 90 (0,0)):=by rw[<-vp,<-hB];exact alloc_at _ _
 have A6:=(vq.block N (by have:=A3.out;omega)).trans DO.out;have Bk:bQ r lb cap T i w W3:=⟨H1.out.grow vq,(Ext.of_below_size (M:=(·=r)) (show aE w.heap.size w W1 by rw[o];exact DM.out)).trans (Ext.of_below_size (M:=(·=r)) vq) (λk g=> .inl g)⟩
 have Bm:=zH Bk;have up:=zH ue;have D4:=zH A6;clear hB vp vq ue A6 Bk
 go_upto_region 3 with(go_at_call 207;refine(AT.out W3 Bm.out.1).mono ?_;rintro e w4 ⟨rfl,Bs⟩;have xf:=zH Bs;clear Bs)
 go_upto_region 4 with(go_at_call 208;refine(Do.out w4 xf.out.1).mono ?_;rintro e w5 ⟨rfl,xj⟩;have By:=zH (xf.out.trans xj);have xo:=(xf.out.trans xj).2.heap up.out (by omega);have Ek:=zH xo;obtain⟨⟨a0,a1,a2,a3⟩,⟨b0,b1,b2,b3⟩,BE⟩:=mP xo;clear xj xo)
 obtain⟨W6,vr⟩:=zE (w5.setCell ⟨B,0,tM⟩ (tS x.text));rw[vr];have vt:Ext (·=B) w5 W6:=by rw[<-vr];exact ae (Ext.refl _ _) _
 have BT:W6.heap[B]?=tG (uc #[tS x.text,tU tM 0 0,Z U t.ln,Z U t.cl] 90 (0,0)):=by rw[<-vr];exact bk _ B 0 _ _ _ Ek.out
 have BY:=vt.heap (By.out.2.heap D4.out (by omega)) (show¬N=B by omega);have xp:=Bm.out.trans By.out;have B5:bQ r lb cap T (i+2) w W6:=⟨xp.1.ext vt (by omega) (by have:=vm.out;omega),xp.2.trans vt (λk g=> .inr (by omega))⟩
 have B6:=zH B5;have EV:=zH BT;have E0:=zH BY;clear vr vt BT BY xp B5 a0 a1 a2 a3 b0 b1 b2 b3 BE
 go_upto_region 5 with(go_at_call 207;refine(AW.out W6 B6.out.1).mono ?_;rintro e w7 ⟨rfl,B7⟩;have xt:=zH B7;clear B7)
 have hI:Jk r lb cap T w x.text l t.ln t.cl k B (i+3) w7:=⟨tM,0,[],l,rfl,DP.out,xt.out.2.heap EV.out (by omega),World.ownsRow_nil _ _ _ _,B6.out.trans xt.out,by simp,by rw[o];exact xt.out.2.heap E0.out (by omega)⟩
 have HI:=zH hI;clear hI
 go_loopw [4] (λ_ wr=>∃j:bh,Jk r lb cap T w x.text l t.ln t.cl k B j wr) (λ_ wr=>sI r T wr)
 case atStart=>exact⟨i+3,HI.out⟩
 case round=>
  obtain⟨j,ao,c,fs,l2,hl,B8,ue,xF,hm,Hc,vu⟩:=hrel;rw[o] at vu;have E2:=zH (gH hm.1);have Hh:j<=1000000:=by
   have:=B8.le;have:=(bl.1 HZ.out).1;omega
  have HL:=zH hl;have vx:=zH xF;have HM:=zH hm;have up:=zH ue;have vy:=zH vu;cases B8 with
  |nil=>
   have ux:=zH (A2.out k z wr HZ.out hm.1);rw[HK.out] at ux;clear hl xF hm ue vu
   go_upto_region 10 with(go_at_call 172;refine ux.out.mono ?_;rintro e E ⟨rfl,vc⟩;have v:=zH vc;clear vc)
   have B9:=HM.out.grow v.out;have vd:=zH B9;clear B9
   go_upto_region 11 with(go_at_call 207;refine(A0.out E vd.out.1).mono ?_;rintro e w9 ⟨rfl,vf⟩;have J:=zH vf;clear vf)
   go_wp2_with (go_at_call 207;refine(Ds.out w9 J.out.1).mono ?_;rintro e Hi ⟨rfl,K⟩;have vh:=zH (J.out.trans K);have uv:=(J.out.trans K).2.heap ((v.out.block B (aa up.out)).trans up.out) (by omega);have xT:=(J.out.trans K).2.heap ((v.out.block N (aa vy.out)).trans vy.out) (by omega);have E3:=zH xT;obtain⟨⟨a0,a1,a2,a3⟩,⟨b0,b1,b2,b3⟩,BE⟩:=mP uv;obtain⟨⟨p0,p1,p2,p3⟩,⟨q0,q1,q2,q3⟩,Hj⟩:=mP xT;clear K uv xT)
   (try simp only[dk,Exit.then]);refine er (fk (P:=am) rfl _ _ N 90 _ (0,0) _ rfl (jw E3.out) oB rfl (by kernel_rfl)) rfl ?_;have hM:=vd.out.trans vh.out;have yb:∀W u0 u1 u2 u3,Ext (·=N) W ((((W.setCell ⟨N,0,tM⟩ u0).setCell ⟨N,1,tM⟩ u1).setCell ⟨N,2,tM⟩ u2).setCell ⟨N,3,tM⟩ u3):=λW u0 u1 u2 u3=>ae (ae (ae (ae (Ext.refl _ _) _) _) _) _;refine⟨ao,c,fs,t.ln,t.cl,rfl,by rw[<-HL.out];simp, ?_,hM.1.ext (yb _ _ _ _ _) (by omega) (by have:=vm.out;omega),hM.2.trans (yb _ _ _ _ _) (λk g=> .inr (by omega))⟩;rw[o];refine aY (ah (ah (ownsRow_below vx.out v.out) vh.out.2 (λq A=> ?_)) (yb _ _ _ _ _) (λq A=> ?_)) (show N<=B+1 by omega)
   ·have:=(ai vx.out A).1;omega
   ·have:=(ai vx.out A).1;omega
  |cons _ G _ y d z3 l3 yd Cd Cl Cp CA ye=>
   obtain⟨t1,CC,CD,Hk⟩:=yd.first
   have ux:=zH (A2.out j t1 wr CC hm.1);rw[CD] at ux;have E4:=zH (DA.out j);have E6:=zH (λW=>DB.out j G y W yd);have E7:=zH (λW=>DE.out G d W Cd Cl);have Fc:=zH (λW=>A1.out (G+1) z3 W Cp CA);have Fi:=zH ye;have Hn:G+2<=T.length:=eJ ye.le (nx (bl.1 HZ.out).1);clear hl xF hm ue vu yd Cd Cl Cp CA ye CC CD
   go_upto_region 6 with(first
    |(go_at_call 172;refine ux.out.mono ?_;rintro e E ⟨rfl,vc⟩;have v:=zH vc;clear vc)
    |(go_at_call 171;refine(E4.out E (HM.out.1.grow v.out)).mono ?_;rintro e w9 ⟨rfl,rfl⟩))
   have vd:=zH (HM.out.grow v.out);have CH:∀(w:World)(c:eA cA),c.size=5->(dt ⟨w.heap.size,0,tM⟩ [tS ⟨#[]⟩,ua y.1,tS y.2,Z U 0,Z U 0] 0).run am (w.alloc (uc c 92))= .ok () (w.alloc (uc #[tS ⟨#[]⟩,ua y.1,tS y.2,Z U 0,Z U 0] 92)):=λw c hc=>
    cx (P:=am) w 92 c #[tS ⟨#[]⟩,ua y.1,tS y.2,Z U 0,Z U 0] (by show _=tG 5;kernel_rfl) hc (by simp[ct])
   have Fk:=zH CH;clear CH
   go_upto_region 7 with(go_at_call 209;refine(E6.out E vd.out.1).mono ?_;rintro e w9 ⟨rfl,vf⟩;have J:=zH vf;have Fl:=Fk.out w9;clear vf)
   clear Fl;obtain⟨F,hF⟩:=zE w9.heap.size;obtain⟨yi,we⟩:=zE (w9.alloc (uc #[tS ⟨#[]⟩,ua y.1,tS y.2,Z U 0,Z U 0] 92));rw[hF,we];have CM:=il we;have CN:yi.heap[F]?=tG (uc #[tS ⟨#[]⟩,ua y.1,tS y.2,Z U 0,Z U 0] 92 (0,0)):=by rw[<-we,<-hF];exact alloc_at _ _
   have K:bQ r lb cap T G E yi:=J.out.grow CM;have yk:=(v.out.block B (aa up.out)).trans up.out;have CT:=(v.out.block N (aa vy.out)).trans vy.out;have C4:=ownsRow_below vx.out v.out;have Hp:E.heap.size<=F:=by rw[<-hF];exact J.out.2.size
   have Hs:B<E.heap.size:=aa yk;have vh:=zH K;have Fm:=zH CN;have Fo:=zH yk;have Fr:=zH CT;have C5:=zH C4;clear hF we CM CN K yk CT C4
   go_upto_region 8 with(go_at_call 208;refine(E7.out yi vh.out.1).mono ?_;rintro e yp ⟨rfl,yq⟩;have C6:=zH (vh.out.trans yq);have yr:=yq.2.heap Fm.out (by omega);have Ft:=zH yr;obtain⟨⟨a0,a1,a2,a3,a4⟩,⟨b0,b1,b2,b3,b4⟩,FA⟩:=fU yr;clear yq yr)
   obtain⟨wg,wj⟩:=zE (((yp.setCell ⟨F,0,tM⟩ (tS d.text)).setCell ⟨F,3,tM⟩ (Z U d.ln)).setCell ⟨F,4,tM⟩ (Z U d.cl));rw[wj];have yv:Ext (·=F) yp wg:=by rw[<-wj];exact ae (ae (ae (Ext.refl _ _) _) _) _
   have C7:wg.heap[F]?=tG (uc #[tS d.text,ua y.1,tS y.2,Z U d.ln,Z U d.cl] 92 (0,0)):=by
    rw[<-wj];have h1:_=tG (Obj.cells #[tS d.text,ua y.1,tS y.2,Z U 0,Z U 0] 92 (0,0)):=bk yp F 0 _ _ (tS d.text) Ft.out;have h2:_=tG (Obj.cells #[tS d.text,ua y.1,tS y.2,Z U d.ln,Z U 0] 92 (0,0)):=bk _ F 3 _ _ (Z U d.ln) h1;exact bk _ F 4 _ _ (Z U d.cl) h2
   have Dd:bQ r lb cap T (G+1) E wg:=⟨C6.out.1.ext yv (by omega) (by have:=vm.out;omega),C6.out.2.trans yv (λk g=> .inr (by omega))⟩
   have Dg:=zH Dd;have FF:=zH C7;clear wj yv C7 Dd a0 a1 a2 a3 a4 b0 b1 b2 b3 b4 FA
   go_upto_region 9 with(go_at_call 207;refine(Fc.out wg Dg.out.1).mono ?_;rintro e yy ⟨rfl,yW⟩;have wk:=zH (Dg.out.trans yW);have FG:=zH (yW.2.heap FF.out (by omega));clear yW)
   have zc:=wk.out.2.heap Fo.out (show¬B=r by omega);have F0:=zH zc;have F1:=zH (wk.out.2.heap Fr.out (show¬N=r by omega));have zj:=zH (ah C5.out wk.out.2 (λq A=>by have:=(ai C5.out A).1;omega));obtain⟨⟨c0,c1,c2,c3⟩,⟨d0,d1,d2,d3⟩,Ge⟩:=mP zc;obtain⟨⟨a0,a1,a2,a3,a4⟩,⟨b0,b1,b2,b3,b4⟩,Hv⟩:=fU FG.out;have Gk:B+1<=yy.heap.size:=Ge;have Hx:fs.length<=1000000:=by omega
   clear zc
   go_wp2_with (at_builtin;refine gF rfl (.tmp 40) (.tmp 42) 88 rfl (B+1) 92 i0 _ 5 56 iu DQ DS D0 D1 rfl (by decide) _ fs.length (fs.flatMap uA) rfl zj.out yy.heap.size #[tS d.text,ua y.1,tS y.2,Z U d.ln,Z U d.cl] rfl rfl rfl (by simp[ct]) (by unfold eC;omega) (by omega) Gk ?_;intro HU zp zs zv GB;obtain⟨An,At,GC⟩:=aC zs;subst GC;have GE:=zH zs;have GF:=zH zv;have Ax:=zv.heap F0.out (λh=>by have:=(ai zj.out h).1;omega);have GO:=zH Ax;obtain⟨⟨c0,c1,c2,c3⟩,⟨d0,d1,d2,d3⟩,If⟩:=mP Ax;clear zs zv GB Ax)
   have wl:Ext (λq=>B<=q) yy (zp.setCell ⟨B,1,tM⟩ (tU An (fs.length+1) At)):=(GF.out.mono (λq A=>by have:=(ai zj.out A).1;omega)).trans (Ext.set1 zp B 1 _) (λq A=> .inl (by omega));have AD:=vd.out.trans wk.out;have AE:bQ r lb cap T (G+1+1) w (zp.setCell ⟨B,1,tM⟩ (tU An (fs.length+1) At)):=⟨AD.1.ext wl (by omega) (by have:=vm.out;omega),AD.2.trans wl (λq A=> .inr (by omega))⟩
   have GP:=zH AE;have GS:=zH (gH AE.1);have GT:=zH wl;clear wl AD AE;go_roundw
   case rel=>
    refine⟨G+2,An,At,fs++[⟨d.text,y.1,y.2,d.ln,d.cl⟩],l3, ?_,Fi.out, ?_, ?_,GP.out,by rw[bo];simp;omega, ?_⟩
    ·rw[dp,eq,<-HL.out];rfl
    ·rw[bo]
     exact bk _ B 1 _ _ _ GO.out
    ·rw[gn,bo]
     exact lR GE.out (by show B<B+1;omega) _
    ·rw[HN.out];exact GT.out.heap F1.out (by omega)
   case measure=>
    rw[GS.out,E2.out];omega
theorem Sm.inn.other {f q:bh}{w w':World}{s:Sm}{j:eA cA}{t:gt}{o:bh×bh}(h:s.inn f w)(u:w.heap[q]?=tG (uc j t o))(v:t≠313)(x:Ext (·=q) w w'):s.inn f w':=by
 rcases h with h|⟨g,cap,y,z,d⟩
 ·exact .inl h
 ·refine .inr ⟨g,cap,y,z,x.heap d (λe=> ?_)⟩
  subst e;rw[u] at d;simp only[dd,Obj.cells.injEq] at d;exact v d.2.1
def Dy (r lb cap:bh)(T:bj Tok)(w:World)(nm:bm)(y:Ty)(f:bj qD)(k:bh)(e:Ending)(w':World):Prop:=
 ∃(ao:cG fS) (c:bh) (d:bj Sm) (g h:aw),e= ud (ub #[tS nm,tU tM 0 0,ua y.1,tS y.2,tU ao d.length c,Z U g,Z U h])/\d.map Sm.shp=f/\
  w'.ownsRow w.heap.size 282 9 (tU ao d.length c) d.length (d.flatMap IM)/\(∀s∈d,s.inn w.heap.size w')/\bQ r lb cap T k w w'
theorem pY {r lb cap:bh}{T:bj Tok}{i j k:bh}{t x u v o z:Tok}{y:Ty}{vr:bj qD}(w:World)(h:Rd r lb cap T i w)(ht:T[i]?=tG t)(hy:xH T i y j)(hx:T[j]?=tG x)(xp:x.kind=1)(hu:T[j+1]?=tG u)(xt:dQ u fM=tP)
  (K:T[j+2]?=tG v)(vt:dQ v oH=tP)(ho:T[j+3]?=tG o)(xF:dQ o mZ=tP)(E:ja T (j+4) vr k)(hz:T[k]?=tG z)(f:dQ z jB=tP):
  ge am 174 #[tW (tG ⟨r,0,tM⟩)] w (Dy r lb cap T w x.text y vr (k+1)):=by
 obtain⟨N,g⟩:=zE w.heap.size;obtain⟨W1,R⟩:=zE (w.alloc (uc #[tS ⟨#[]⟩,tU tM 0 0,ua tR,tS ⟨#[]⟩,tU tM 0 0,Z U 0,Z U 0] 233));have vu:=iR R g;have xT:W1.heap.size=N+1:=by rw[<-R];simp[g]
 have yb:W1.heap[N]?=tG (uc #[tS ⟨#[]⟩,tU tM 0 0,ua tR,tS ⟨#[]⟩,tU tM 0 0,Z U 0,Z U 0] 233 (0,0)):=by rw[<-R,<-g];exact alloc_at _ _
 have G:=h.grow (by rw[g];exact vu);have yd:=zH (bJ W1 G ht);have A2:cj (∀W,Rd r lb cap T i W->ge am 209 #[tW (tG ⟨r,0,tM⟩)] W λe w'=>e= ud (ub #[ua y.1,tS y.2])/\bQ r lb cap T j W w'):=λW d=>qB W d hy;have A3:cj (∀W,Rd r lb cap T j W->ge am 208 #[tW (tG ⟨r,0,tM⟩)] W λe w'=>e= ud (.tuple #[tS x.text,ub #[Z U x.ln,Z U x.cl]])/\bQ r lb cap T (j+1) W w'):=λW d=>eP W d hx xp;have ye:cj (∀W,Rd r lb cap T (j+1) W->ge am 207 #[tW (tG ⟨r,0,tM⟩),tS fM] W λe w'=>e= ud (.tuple #[])/\bQ r lb cap T (j+2) W w'):=λW d=>bi fM W d hu xt;have vx:cj (∀W,Rd r lb cap T (j+2) W->zP 172 #[tW (tG ⟨r,0,tM⟩),tS oH] W (ua (dQ v oH))):=λW d=>bF oH W d K;rw[vt] at vx;have yi:cj (∀W,Rd r lb cap T (j+2) W->ge am 207 #[tW (tG ⟨r,0,tM⟩),tS oH] W λe w'=>e= ud (.tuple #[])/\bQ r lb cap T (j+3) W w'):=λW d=>bi oH W d K vt;have A4:cj (∀W,Rd r lb cap T (j+3) W->ge am 210 #[tW (tG ⟨r,0,tM⟩),Z U 0] W (zF r lb cap T W vr (k+1))):=λW d=>uN 0 (by decide) (by decide) W d ho xF E hz f;unfold fM at ye;unfold oH at vx yi;simp only[Tok.cells] at yd;have hst:∀(w:World)(c:eA cA),c.size=7->(dt ⟨w.heap.size,0,tM⟩ [tS ⟨#[]⟩,tU tM 0 0,ua tR,tS ⟨#[]⟩,tU tM 0 0,Z U t.ln,Z U t.cl] 0).run am (w.alloc (uc c 233))= .ok () (w.alloc (uc #[tS ⟨#[]⟩,tU tM 0 0,ua tR,tS ⟨#[]⟩,tU tM 0 0,Z U t.ln,Z U t.cl] 233)):=λw c hc=>
  cx (P:=am) w 233 c #[tS ⟨#[]⟩,tU tM 0 0,ua tR,tS ⟨#[]⟩,tU tM 0 0,Z U t.ln,Z U t.cl] (by show _=tG 7;kernel_rfl) hc (by simp[ct])
 have A5:=zH hst;have CH:r<N:=by rw[<-g];exact h.rlt
 have up:cj (lb<N):=by unfold cj;rw[<-g];exact h.lt
 have A6:=zH R;have Bk:=zH vu;have yk:=zH xT;have Bm:=zH yb;have H1:=zH G;have HN:=zH g;clear h ht hy hx xp hu xt K vt ho xF E hz f R vu xT yb G hst;have Bs:=λW=>Fs t.kind t.text t.n t.ln t.cl W;go_enter func174,ntmps174
 go_upto_region 2 with(go_at_call 170;rw[A6.out];refine yd.out.mono ?_;rintro e w2 ⟨rfl,yp⟩;have By:=A5.out w2;have yq:=zH yp;clear yp)
 clear By Bs;obtain⟨B,hB⟩:=zE w2.heap.size;obtain⟨W3,ur⟩:=zE (w2.alloc (uc #[tS ⟨#[]⟩,tU tM 0 0,ua tR,tS ⟨#[]⟩,tU tM 0 0,Z U t.ln,Z U t.cl] 233));rw[hB,ur];have uv:=zD ur yq;have CM:N+1<=B:=by rw[<-hB,<-yk.out];exact yq.out.size
 have yr:W3.heap[B]?=tG (uc #[tS ⟨#[]⟩,tU tM 0 0,ua tR,tS ⟨#[]⟩,tU tM 0 0,Z U t.ln,Z U t.cl] 233 (0,0)):=by rw[<-ur,<-hB];exact alloc_at _ _
 have yv:=(uv.block N (by have:=yk.out;omega)).trans Bm.out;have yy:bQ r lb cap T i w W3:=⟨H1.out.grow uv,(Ext.of_below_size (M:=(·=r)) (show aE w.heap.size w W1 by rw[g];exact Bk.out)).trans (Ext.of_below_size (M:=(·=r)) uv) (λk f=> .inl f)⟩
 have yW:=zH yy;have BE:=zH yr;have BT:=zH yv;clear hB ur uv yr yv yy
 go_upto_region 3 with(go_at_call 209;refine(A2.out W3 yW.out.1).mono ?_;rintro e w4 ⟨rfl,vy⟩;have zc:=zH vy;have we:=vy.2.heap BE.out (by omega);have BY:=zH we;obtain⟨⟨a0,a1,a2,a3,a4,a5,a6⟩,⟨b0,b1,b2,b3,b4,b5,b6⟩,ux⟩:=eZ we;clear vy we)
 obtain⟨W5,vc⟩:=zE ((w4.setCell ⟨B,2,tM⟩ (ua y.1)).setCell ⟨B,3,tM⟩ (tS y.2));rw[vc];have vd:Ext (·=B) w4 W5:=by rw[<-vc];exact ae (ae (Ext.refl _ _) _) _
 have zj:W5.heap[B]?=tG (uc #[tS ⟨#[]⟩,tU tM 0 0,ua y.1,tS y.2,tU tM 0 0,Z U t.ln,Z U t.cl] 233 (0,0)):=by
  rw[<-vc];have G:_=tG (Obj.cells #[tS ⟨#[]⟩,tU tM 0 0,ua y.1,tS ⟨#[]⟩,tU tM 0 0,Z U t.ln,Z U t.cl] 233 (0,0)):=bk w4 B 2 _ _ (ua y.1) BY.out;exact bk _ B 3 _ _ (tS y.2) G
 have zp:=vd.heap (zc.out.2.heap BT.out (by omega)) (show¬N=B by omega);have wg:=yW.out.trans zc.out;have zs:bQ r lb cap T j w W5:=⟨wg.1.ext vd (by omega) (by have:=up.out;omega),wg.2.trans vd (λk f=> .inr (by omega))⟩
 have zv:=zH zs;have B5:=zH zj;have B6:=zH zp;clear vc vd zj zp wg zs a0 a1 a2 a3 a4 a5 a6 b0 b1 b2 b3 b4 b5 b6 ux
 go_upto_region 4 with(go_at_call 208;refine(A3.out W5 zv.out.1).mono ?_;rintro e w6 ⟨rfl,wj⟩;have An:=zH wj;have wk:=wj.2.heap B5.out (by omega);have B7:=zH wk;obtain⟨⟨a0,a1,a2,a3,a4,a5,a6⟩,⟨b0,b1,b2,b3,b4,b5,b6⟩,ux⟩:=eZ wk;clear wj wk)
 obtain⟨W7,vf⟩:=zE (w6.setCell ⟨B,0,tM⟩ (tS x.text));rw[vf];have vh:Ext (·=B) w6 W7:=by rw[<-vf];exact ae (Ext.refl _ _) _
 have At:W7.heap[B]?=tG (uc #[tS x.text,tU tM 0 0,ua y.1,tS y.2,tU tM 0 0,Z U t.ln,Z U t.cl] 233 (0,0)):=by rw[<-vf];exact bk _ B 0 _ _ _ B7.out
 have Ax:=vh.heap (An.out.2.heap B6.out (by omega)) (show¬N=B by omega);have wl:=zv.out.trans An.out;have AD:bQ r lb cap T (j+1) w W7:=⟨wl.1.ext vh (by omega) (by have:=up.out;omega),wl.2.trans vh (λk f=> .inr (by omega))⟩
 have ws:=zH AD;have AE:=zH At;have B8:=zH Ax;clear vf vh At Ax wl AD a0 a1 a2 a3 a4 a5 a6 b0 b1 b2 b3 b4 b5 b6 ux
 go_upto_region 5 with(go_at_call 207;refine(ye.out W7 ws.out.1).mono ?_;rintro e w8 ⟨rfl,AF⟩;have AH:=zH AF;clear AF)
 go_loopw [4] (λ_ wr=>wr=w8) (λ_ _=>0)
 case atStart=>rfl
 case round=>
  obtain rfl:=hrel
  go_upto_region 11 with(go_at_call 172;refine(vx.out _ AH.out.1).mono ?_;rintro e w9 ⟨rfl,AI⟩;have B9:=zH AI;clear AI)
  have AK:=zH (AH.out.grow B9.out)
  go_upto_region 12 with(go_at_call 207;refine(yi.out _ AK.out.1).mono ?_;rintro e Cd ⟨rfl,AM⟩;have ue:=zH (AK.out.trans AM);clear AM)
  have AN:w.heap.size<=Cd.heap.size:=eJ ws.out.2.size ue.out.2.size
  go_upto_region 13 with(go_at_call 210;refine(A4.out _ ue.out.1).mono ?_;rintro e J ⟨v,A,rfl,AS,vm,AT,xf⟩;obtain⟨ao,c,K⟩:=aC vm;subst K;have Cl:=zH AS;have Cp:=zH (aY vm AN);have CA:cj (∀s∈A,s.inn w.heap.size J):=(λs E=>(AT s E).mono AN);have AW:=zH (ue.out.trans xf);have xj:=(ue.out.trans xf).2.heap AE.out (by omega);have A0:cj (∀q,et (tU ao A.length c)=tG q->B<q):=(λq hq=>by have G:=(ai vm hq).1;have h2:=aa (ue.out.2.heap AE.out (by omega));omega);have CC:=zH xj;obtain⟨⟨a0,a1,a2,a3,a4,a5,a6⟩,⟨b0,b1,b2,b3,b4,b5,b6⟩,ux⟩:=eZ xj;clear AS vm AT xf xj)
  have xo:=AW.out.2.heap B8.out (show¬N=r by omega);have CD:=zH xo;obtain⟨⟨p0,p1,p2,p3,p4,p5,p6⟩,⟨q0,q1,q2,q3,q4,q5,q6⟩,CN⟩:=eZ xo;clear xo;go_wp2;(try simp only[dk,Exit.then]);have A1:(J.setCell ⟨B,4,tM⟩ (tU ao A.length c)).heap[N]?=_:=(dg _ _ _ N (by show N≠B;omega)).trans CD.out;refine er (fk (P:=am) rfl _ _ N 233 _ (0,0) _ rfl (gN A1) underlying233 rfl (by kernel_rfl)) rfl ?_;have vp:Ext (·=B) J (J.setCell ⟨B,4,tM⟩ (tU ao A.length c)):=Ext.set1 J B 4 _;have vq:=cK (J.setCell ⟨B,4,tM⟩ (tU ao A.length c)) N (tS x.text) (tU tM 0 0) (ua y.1) (tS y.2) (tU ao A.length c) (Z U t.ln) (Z U t.cl);have hM:=(ws.out.trans AW.out)
  refine⟨ao,c,A,t.ln,t.cl,rfl,Cl.out, ?_,λs E=> ?_,(hM.1.ext vp (by omega) (by have:=up.out;omega)).ext vq (by omega) (by have:=up.out;omega),(hM.2.trans vp (λk f=> .inr (by omega))).trans vq (λk f=> .inr (by omega))⟩
  ·exact ah (ah Cp.out vp (λq hq e=>by have:=A0.out q hq;omega)) vq (λq hq e=>by have:=A0.out q hq;omega)
  ·exact((CA.out s E).other CC.out (by decide) vp).other A1 (by decide) vq
def xN (w:World)(lb:bh)(T:bj Tok):Prop:=∀(k:bh)(t:Tok),T[k]?=tG t->∀(j:bh)(u:cA),t.cells.toList[j]?=tG u->w.cell? ⟨lb,k*5+j,tM⟩=tG u
def BZ (T:bj Tok):Prop:=∀(k:bh)(t:Tok),T[k]?=tG t->(t.kind=5↔k+1=T.length)
theorem uO (lb cap:bh)(T:bj Tok)(w:World)(A:T.length<=1000000)(h0:0<T.length)(q:xN w lb T)(u:BZ T):
  zS 169 #[tU (tG ⟨lb,0,tM⟩) T.length cap] w (ua tP):=by
 have x:=zH q;have y:=zH u;clear q u;go_enter func169,ntmps169;go_wp2
 go_loop [3] (λk=>∃j:bh,j<=T.length/\k= Z U (j:aw)) (λk=>T.length-(de k).toNat)
 case atStart=>exact⟨0,cN _,rfl⟩
 case round=>
  obtain⟨j,E,rfl⟩:=hrel
  by_cases g:j<T.length
  ·have z:(j:aw)<(T.length:aw):=by omega
   obtain⟨t,e⟩:∃t,T[j]?=tG t:=⟨_,ap g⟩
   have v:=x.out j t e 0 _ rfl;rw[ki] at v;have f:=y.out j t e
   by_cases d:t.kind=5
   ·have o:j+1=T.length:=f.1 d
    rw[d] at v;have d1:((j:aw)==(T.length:aw)-1)=tP:=by rw[tt];omega
    clear e f d o;go_wp2
    go_round
    case rel=>exact⟨j+1,g,by go_num⟩
    case measure=>simp[de];omega
   ·have o:j+1≠T.length:=λh=>d (f.2 h)
    have d5:(t.kind==5)=tR:=by rw[cT];exact d
    have d1:((j:aw)==(T.length:aw)-1)=tR:=by rw[cT];omega
    clear e f d o;go_wp2
    go_round
    case rel=>exact⟨j+1,g,by go_num⟩
    case measure=>simp[de];omega
  ·have z:¬(j:aw)<(T.length:aw):=by omega
   have G:(0:aw)<(T.length:aw):=by omega
   have J:decide ((0:aw)<(T.length:aw))=tP:=by rw[oE];omega
   go_wp2;go_ret;exact⟨rfl,rfl⟩
theorem Gy:(am.info? 90).map (λi=>(i.zero,i.size,i.bytes))=tG (tG (ub #[tS ⟨#[]⟩,tU tM 0 0,Z U 0,Z U 0]),4,56):=by kernel_rfl
theorem Gz:(am.info? 233).map (λi=>(i.zero,i.size,i.bytes))=tG (tG (ub #[tS ⟨#[]⟩,tU tM 0 0,ua tR,tS ⟨#[]⟩,tU tM 0 0,Z U 0,Z U 0]),7,104):=by kernel_rfl
structure Pg where
 snm:bm
 fs:bj Fd
 fA:cG fS
 fC:bh
 sl:aw
 sc:aw
 nm:bm
 ret:Ty
 ss:bj Sm
 bA:cG fS
 bC:bh
 gl:aw
 gc:aw
 pA:bh
 pC:bh
 qA:bh
 qC:bh
def Pg.stc (p:Pg):bj cA:=[tS p.snm,tU p.fA p.fs.length p.fC,Z U p.sl,Z U p.sc]
def Pg.fnc (p:Pg):bj cA:=[tS p.nm,tU tM 0 0,ua p.ret.1,tS p.ret.2,tU p.bA p.ss.length p.bC,Z U p.gl,Z U p.gc]
def Pg.cells (p:Pg):eA cA:=#[tU (tG ⟨p.pA,0,tM⟩) 1 p.pC,tU (tG ⟨p.qA,0,tM⟩) 1 p.qC]
structure Pg.inn (p:Pg)(B:bh)(w:World):Prop where
 fields:w.ownsRow B 92 5 (tU p.fA p.fs.length p.fC) p.fs.length (p.fs.flatMap uA)
 strs:w.ownsRow B 90 4 (tU (tG ⟨p.pA,0,tM⟩) 1 p.pC) 1 p.stc
 stmts:w.ownsRow B 282 9 (tU p.bA p.ss.length p.bC) p.ss.length (p.ss.flatMap IM)
 exprs:∀s∈p.ss,s.inn B w
 fns:w.ownsRow B 233 7 (tU (tG ⟨p.qA,0,tM⟩) 1 p.qC) 1 p.fnc
def xO (w:World)(snm:bm)(l:bj (bm×Ty))(nm:bm)(y:Ty)(d:bj qD)(e:Ending)(w':World):Prop:=
 ∃p:Pg,e= ud (.tuple #[ub p.cells,ub #[Z U 0,Z U 0,Z U 0,Z U 0]])/\p.snm=snm/\p.fs.map Fd.shp=l/\p.nm=nm/\p.ret=y/\p.ss.map Sm.shp=d/\p.inn w.heap.size w'/\aE w.heap.size w w'
structure sK (T:bj Tok)(snm:bm)(l:bj (bm×Ty))(nm:bm)(y:Ty)(shs:bj qD):Prop where
 ended:BZ T
 short:T.length<=1000000
 toks:∃(k j m:bh) (t x u z z2 t2 x2 u2 v2 o2 s2 e2:Tok),T[0]?=tG t/\dQ t jO=tP/\T[1]?=tG x/\x.kind=1/\x.text=snm/\T[2]?=tG u/\dQ u mZ=tP/\iJ T 3 l k/\T[k]?=tG z/\dQ z jB=tP/\T[k+1]?=tG z2/\dQ z2 dV=tP/\
  T[k+2]?=tG t2/\dQ t2 jO=tR/\xH T (k+2) y j/\T[j]?=tG x2/\x2.kind=1/\x2.text=nm/\T[j+1]?=tG u2/\dQ u2 fM=tP/\T[j+2]?=tG v2/\dQ v2 oH=tP/\T[j+3]?=tG o2/\dQ o2 mZ=tP/\ja T (j+4) shs m/\T[m]?=tG s2/\dQ s2 jB=tP/\
  T[m+1]?=tG e2/\e2.kind=5
def Im (N lb cap:bh)(T:bj Tok)(d:World)(j:bh)(wr:World):Prop:=Rd (N+2) lb cap T j wr/\Ext (λq=>q=N+2\/q=N+3) d wr
def GA (lb cap:bh)(T:bj Tok)(snm:bm)(l:bj (bm×Ty))(nm:bm)(y:Ty)(e:bj qD)(k m N:bh)(d:World)(wr:World):Prop:=
 (Im N lb cap T d 0 wr/\wr.heap[N+3]?=tG (uc #[tU tM 0 0,tU tM 0 0] 179 (0,0)))\/
 (∃p:Pg,Im N lb cap T d (k+2) wr/\p.snm=snm/\p.fs.map Fd.shp=l/\wr.ownsRow (N+4) 92 5 (tU p.fA p.fs.length p.fC) p.fs.length (p.fs.flatMap uA)/\wr.ownsRow (N+4) 90 4 (tU (tG ⟨p.pA,0,tM⟩) 1 p.pC) 1 p.stc/\
  wr.heap[N+3]?=tG (uc #[tU (tG ⟨p.pA,0,tM⟩) 1 p.pC,tU tM 0 0] 179 (0,0)))\/
 (∃p:Pg,Im N lb cap T d (m+1) wr/\p.snm=snm/\p.fs.map Fd.shp=l/\p.nm=nm/\p.ret=y/\p.ss.map Sm.shp=e/\p.inn (N+4) wr/\wr.heap[N+3]?=tG (uc p.cells 179 (0,0)))
theorem fZ {w:World}{base:bh}{e:gt}{size n:bh}{v:cA}{xs:bj cA}(h:w.ownsRow base e size v (n+1) xs):∃g c,v= tU (tG ⟨g,0,tM⟩) (n+1) c/\base<=g/\g<w.heap.size:=by
 rcases h.2 with⟨_,d⟩|⟨g,cap,o,f,d,j,_⟩
 ·cases d
 ·exact⟨g,cap,f,d,aa j⟩
theorem uP {lb cap:bh}{T:bj Tok}{snm nm:bm}{l:bj (bm×Ty)}{y:Ty}{vt:bj qD}(w:World)(wl:xN w lb T)(C7:lb<w.heap.size)(hx:sK T snm l nm y vt):
  ge am 129 #[tU (tG ⟨lb,0,tM⟩) T.length cap] w (xO w snm l nm y vt):=by
 obtain⟨he,hT,k,j,m,t,x,u,z,z2,t2,x2,u2,v2,o2,s2,e2,a1,a2,a3,a4,a5,a6,a7,a8,a9,Bk,Bm,Bs,b1,b2,b3,b4,b5,b6,b7,b8,b9,By,BE,BT,zp,BY,B5,c1,c2⟩:=hx;obtain⟨N,hN⟩:=zE w.heap.size;obtain⟨W2,ws⟩:=zE ((w.alloc (uc #[tU tM 0 0,tU tM 0 0] 179)).alloc (uc #[Z U 0,Z U 0,Z U 0,Z U 0] 113));obtain⟨R,vp⟩:=zE ((W2.alloc (uc #[tU (tG ⟨lb,0,tM⟩) T.length cap,Z U 0,Z U 0,Z U 0,Z U 0,Z U 0] 269)).alloc (uc #[tU tM 0 0,tU tM 0 0] 179));have zs:=vX ws hN;have zv:W2.heap.size=N+2:=by rw[<-ws];simp[hN]
 have An:aE N w R:=by rw[<-vp];exact(zs.alloc (by omega) _).alloc (by simp;omega) _
 have B6:R.heap.size=N+4:=by rw[<-vp];simp[zv]
 have B7:R.heap[N]?=tG (uc #[tU tM 0 0,tU tM 0 0] 179 (0,0)):=by
  rw[<-vp];refine(cJ _ _ N (by simp;omega)).trans ((cJ _ _ N (by omega)).trans ?_);rw[<-ws,<-hN];exact kp _ _ _
 have B8:R.heap[N+1]?=tG (uc #[Z U 0,Z U 0,Z U 0,Z U 0] 113 (0,0)):=by
  rw[<-vp];refine(cJ _ _ (N+1) (by simp;omega)).trans ((cJ _ _ (N+1) (by omega)).trans ?_);rw[<-ws,<-hN];exact jp _ _ _
 have B9:=vY vp zv;have Cd:R.heap[N+3]?=tG (uc #[tU tM 0 0,tU tM 0 0] 179 (0,0)):=by rw[<-vp,show N+3=W2.heap.size+1 by omega];exact jp _ _ _
 have Dd:0<T.length:=by have:=(bl.1 a1).1;omega
 have Cl:Rd (N+2) lb cap T 0 R:=⟨B9,λq t ht jj u hu=>by rw[An.cell (p:=⟨lb,q*5+jj,tM⟩) (by show lb<N;omega)];exact wl q t ht jj u hu,by omega,by omega,hT⟩
 have Dg:cj (zS 169 #[tU (tG ⟨lb,0,tM⟩) T.length cap] W2 (ua tP)):=uO lb cap T W2 hT Dd (λq t ht jj u hu=>by rw[zs.cell (p:=⟨lb,q*5+jj,tM⟩) (by show lb<N;omega)];exact wl q t ht jj u hu) he;have At:cj (∀(j:bh)(t:Tok) W,T[j]?=tG t->Rd (N+2) lb cap T j W->zP 170 #[tW (tG ⟨N+2,0,tM⟩)] W (ub #[Z U t.kind,tS t.text,Z U t.n,Z U t.ln,Z U t.cl])):=λj t W ht h=>bJ W h ht;have Ax:cj (∀(j:bh) W,Rd (N+2) lb cap T j W->zS 171 #[tW (tG ⟨N+2,0,tM⟩)] W (ua tR)):=λj W hW=>bI W hW;have Cp:cj (∀(j:bh)(t:Tok) W,T[j]?=tG t->Rd (N+2) lb cap T j W->zP 172 #[tW (tG ⟨N+2,0,tM⟩),tS ⟨#[115,116,114,117,99,116]⟩] W (ua (dQ t jO))):=λj t W ht hW=>bF jO W hW ht;have Do:cj (∀W,Rd (N+2) lb cap T 0 W->ge am 173 #[tW (tG ⟨N+2,0,tM⟩)] W (Dx (N+2) lb cap T W snm l (k+2))):=λW hW=>by
  rw[<-a5];exact oI W hW a1 a2 a3 a4 a6 a7 a8 a9 Bk Bm Bs
 have Ds:cj (∀W,Rd (N+2) lb cap T (k+2) W->ge am 174 #[tW (tG ⟨N+2,0,tM⟩)] W (Dy (N+2) lb cap T W nm y vt (m+1))):=λW hW=>by
  rw[<-b6];exact pY W hW b1 b3 b4 b5 b7 b8 b9 By BE BT zp BY B5
 have DA:(t.kind==5)=tR:=by rw[cT];have:=xK a2;omega
 have FA:m+1<T.length:=(bl.1 c1).1;have FF:k+2<m+1:=by
  have h1:=zp.le;obtain⟨_,_,_,h2⟩:=b3.first
  omega
 have DB:(t2.kind==5)=tR:=by
  rw[cT];intro h;have:=(he _ _ b1).1 h;omega
 have FG:(t.kind != 5)=tP:=by rw[bne,DA];rfl
 have F0:(t2.kind != 5)=tP:=by rw[bne,DB];rfl
 have CA:=zH a1;have DE:=zH a2;have CC:=zH b1;have DG:=zH b2;have DH:=zH c1;have DM:=zH c2;have DO:=zH ws;have DP:=zH vp;have DQ:=zH An;have CD:=zH B6;have F1:=zH zv;have DS:=zH B7;have D0:=zH B8;have HN:=zH hN;have D1:cj (GA lb cap T snm l nm y vt k m N R R):= .inl ⟨⟨Cl,Ext.refl _ _⟩,Cd⟩;obtain⟨i0,D2,D3,D4,Ek⟩:=kB Gy;obtain⟨j0,EV,E0,E2,E3⟩:=kB Gz;have CH:cj (lb<N):=by unfold cj;omega
 clear wl C7 he a1 a2 a3 a4 a5 a6 a7 a8 a9 Bk Bm Bs b1 b2 b3 b4 b5 b6 b7 b8 b9 By BE BT zp BY B5 c1 c2 ws vp zs An B6 B7 B8 B9 Cd Cl;go_enter func129,ntmps129
 go_upto_region 5 with(go_at_call 169;rw[DO.out];refine Dg.out.mono ?_;rintro e W2 ⟨rfl,rfl⟩)
 rw[DP.out];simp only[Nat.add_assoc,Nat.reduceAdd]
 go_loopw [14] (λ_ wr=>GA lb cap T snm l nm y vt k m N R wr) (λ_ wr=>sI (N+2) T wr)
 case atStart=>exact D1.out
 case round=>
  rcases hrel with⟨⟨ue,hx⟩,hP⟩|⟨p,⟨ue,hx⟩,xj,xo,xp,xt,hP⟩|⟨p,⟨ue,hx⟩,xj,xo,xp,xt,CM,CN,hP⟩
  ·have E:=zH ue
   have HX:=zH hx;have HP:=zH hP;have AD:=zH (gH ue);clear ue hx hP;have xF:=λW=>sJ t.kind t.text t.n t.ln t.cl W
   go_upto_region 7 with(first
    |(go_at_call 170;refine(At.out (0) _ wr CA.out E.out).mono ?_;rintro e w5 ⟨rfl,vq⟩;have g:=zH vq;clear vq)
    |(go_at_call 171;refine(Ax.out (0) w5 (E.out.grow g.out)).mono ?_;rintro e f ⟨rfl,rfl⟩)
    |(go_at_call 172;refine(Cp.out (0) _ w5 CA.out (E.out.grow g.out)).mono ?_;rw[DE.out];rintro e f ⟨rfl,xT⟩;have vu:=zH (g.out.trans (xT.mono g.out.size));clear xT))
   clear xF;have yb:=E.out.grow vu.out;have up:=(vu.out.block (N+3) (aa HP.out)).trans HP.out;have zj:N+4<=f.heap.size:=aa up;obtain⟨⟨p0,p1⟩,⟨q0,q1⟩,CT⟩:=dz up;have AE:=zH yb;have ur:=zH up;obtain⟨S,hS⟩:=zE ((λw'=>w'.cell? ⟨N+3,0,tM⟩=tG (tU tM 0 0)):World->Prop);have yd:∀w,S w->w.cell? ⟨N+3,0,tM⟩=tG (tU tM 0 0):=λw h=>by rw[<-hS] at h;exact h
   have vx:∀w,w.cell? ⟨N+3,0,tM⟩=tG (tU tM 0 0)->S w:=λw h=>by rw[<-hS];exact h
   have uv:=zH yd;have vy:=zH vx;have E4:S f.drew:=vx _ (by first|exact p0|simpa using p0);clear hS yd vx yb up;refine aj 7 S (by kernel_rfl) ?_;refine zT 0 rfl uv.out ?_
   try go_simp
   refine zT 1 rfl uv.out ?_
   try go_simp
   refine zT 2 rfl uv.out ?_
   try go_simp
   refine zO 3 rfl λK' d=> ?_;go_simp;go_at_call 173;refine(Do.out f.drew (AE.out.grow ((aq _ _).drew))).mono ?_;rintro e w7 ⟨ao,c,fs,ln,cl,rfl,ye,yi,ux⟩;have we:=ux.2;have vc:=we.heap ur.out (show¬N+3=N+2 by omega);have yk:S w7:=vy.out _ (rowAt vc 0 rfl).1;have E6:f.heap.size<=w7.heap.size:=ux.2.size;have wg:=aY yi (show N+4<=f.drew.heap.size from zj);refine d _ _ yk ?_;clear d
   try go_simp
   refine zO 4 rfl λK' d=> ?_;go_simp;obtain⟨G,hG⟩:=zE w7.heap.size;obtain⟨W8,vd⟩:=zE (w7.alloc (uc #[tS snm,tU ao fs.length c,Z U ln,Z U cl] 90))
   try rw[hG]
   try rw[vd]
   have A:=il vd;have yp:W8.heap[G]?=tG (uc #[tS snm,tU ao fs.length c,Z U ln,Z U cl] 90 (0,0)):=by rw[<-vd,<-hG];exact alloc_at _ _
   have wj:=(A.block (N+3) (aa vc)).trans vc;refine d _ _ (vy.out _ (rowAt wj 0 rfl).1) ?_;clear d
   try go_simp
   refine zO 5 rfl λK' d=> ?_;have AF:N+4<=W8.heap.size:=by have:=A.size;omega
   refine aI (.tmp 26) (.tmp 29) 22 rfl (N+4) 90 i0 _ 4 56 underlying22 D2 D3 D4 Ek rfl (by decide) (tU tM 0 0) 0 [] rfl (World.ownsRow_nil _ _ _ _) (tG ⟨G,0,tM⟩) 1 1 [tS snm,tU ao fs.length c,Z U ln,Z U cl] rfl rfl (λh=>by cases h) (λad AH jj uu hu=>by
    obtain rfl:(⟨G,0,tM⟩:fS)=ad:=by simpa using AH
    rw[cY,cL,bw _ _ _ _ _ _ yp];simpa using hu) (by simp[ct]) (by unfold eC;omega) (by omega) AF ?_
   intro v9 w9 vf yq AI;obtain⟨g9,c9,AK,E7,Fc⟩:=fZ vf;subst AK;have J:Ext (λ_=>me) W8 w9:=Ext.of_grown yq (λq o=>by cases o);have vh:=J.heap wj (λh=>h);have yr:S w9:=vy.out _ (rowAt vh 0 rfl).1;obtain⟨⟨r0,r1⟩,⟨s0,s1⟩,Fi⟩:=dz vh;refine d _ _ yr ?_;clear d
   try go_simp
   refine zT 6 rfl uv.out ?_
   try go_simp
   refine zK rfl λK' d=> ?_;go_simp;refine d _ _ ?_;clear d;refine⟨by kernel_rfl, ?_⟩;obtain⟨WF,vm⟩:=zE (w9.setCell ⟨N+3,0,tM⟩ (tU (tG ⟨g9,0,tM⟩) 1 c9))
   try rw[vm]
   have K:Ext (·=N+3) w9 WF:=by rw[<-vm];exact Ext.set1 w9 (N+3) 0 _
   have yv:Ext (·=N+2) f w9:=(((Ext.refl (·=N+2) f).drew.trans we (λq h=> .inl h)).trans (Ext.of_below_size (M:=λ_=>me) A) (λq h=>h.elim)).trans J (λq h=>h.elim);have yy:Ext (λq=>q=N+2\/q=N+3) f WF:=(yv.mono (λq h=> .inl h)).trans K (λq h=> .inl (.inr h));have xf:Ext (λq=>q=N+2\/q=N+3) wr WF:=(Ext.of_below_size (M:=λq=>q=N+2\/q=N+3) vu.out).trans yy (λq h=> .inl h);have wk:Rd (N+2) lb cap T (k+2) WF:=((ux.1.grow A).ext J (λh=>h) (λh=>h)).ext K (by omega) (by have:=CH.out;omega);have yW:WF.heap[N+3]?=tG (uc #[tU (tG ⟨g9,0,tM⟩) 1 c9,tU tM 0 0] 179 (0,0)):=by rw[<-vm];exact bk w9 (N+3) 0 _ _ _ vh
   have zc:GA lb cap T snm l nm y vt k m N R WF:= .inr (.inl ⟨⟨snm,fs,ao,c,ln,cl,⟨#[]⟩,bM,[],tM,0,0,0,g9,c9,0,0⟩,⟨wk,HX.out.trans xf (λq h=> .inl h)⟩,rfl,ye,
    ah (ah (ownsRow_below wg A) J (λq _ h=>h)) K (λq o e=>by have:=(ai wg o).1;omega),
    ah vf K (λq o e=>by have:=(ai vf o).1;omega),yW⟩)
   have Fk:k+2<T.length:=by omega
   have AM:=zH (gH wk);have AN:=zH zc;clear vm K yv yy xf wk yW zc yq AI vf wg yi ye we ux vc wj vh J A yp vd hG yk yr r0 r1 s0 s1;go_wp2;go_roundw
   case rel=>exact AN.out
   case measure=>
    rw[AM.out,AD.out];omega
  ·have E:=zH ue
   have HX:=zH hx;have HP:=zH hP;have AD:=zH (gH ue);have AS:=zH xj;have AT:=zH xo;have AW:=zH xp;have A0:=zH xt;clear ue hx hP xj xo xp xt;have xF:=λW=>sJ t2.kind t2.text t2.n t2.ln t2.cl W
   go_upto_region 8 with(first
    |(go_at_call 170;refine(At.out (k+2) _ wr CC.out E.out).mono ?_;rintro e w5 ⟨rfl,vq⟩;have g:=zH vq;clear vq)
    |(go_at_call 171;refine(Ax.out (k+2) w5 (E.out.grow g.out)).mono ?_;rintro e f ⟨rfl,rfl⟩)
    |(go_at_call 172;refine(Cp.out (k+2) _ w5 CC.out (E.out.grow g.out)).mono ?_;rw[DG.out];rintro e f ⟨rfl,xT⟩;have vu:=zH (g.out.trans (xT.mono g.out.size));clear xT))
   clear xF;have yb:=E.out.grow vu.out;have up:=(vu.out.block (N+3) (aa HP.out)).trans HP.out;have zj:N+4<=f.heap.size:=aa up;obtain⟨⟨p0,p1⟩,⟨q0,q1⟩,CT⟩:=dz up;have AE:=zH yb;have ur:=zH up;obtain⟨S,hS⟩:=zE ((λw'=>w'.cell? ⟨N+3,1,tM⟩=tG (tU tM 0 0)):World->Prop);have yd:∀w,S w->w.cell? ⟨N+3,1,tM⟩=tG (tU tM 0 0):=λw h=>by rw[<-hS] at h;exact h
   have vx:∀w,w.cell? ⟨N+3,1,tM⟩=tG (tU tM 0 0)->S w:=λw h=>by rw[<-hS];exact h
   have uv:=zH yd;have vy:=zH vx;have E4:S f.drew:=vx _ (by first|exact p1|simpa using p1);clear hS yd vx yb up;refine aj 7 S (by kernel_rfl) ?_;refine zT 0 rfl uv.out ?_
   try go_simp
   refine zT 1 rfl uv.out ?_
   try go_simp
   refine zT 2 rfl uv.out ?_
   try go_simp
   refine zO 3 rfl λK' d=> ?_;go_simp;go_at_call 174;refine(Ds.out f.drew (AE.out.grow ((aq _ _).drew))).mono ?_;rintro e w7 ⟨ao,c,ss,ln,cl,rfl,ye,yi,wl,ux⟩;have we:=ux.2;have vc:=we.heap ur.out (show¬N+3=N+2 by omega);have yk:S w7:=vy.out _ (rowAt vc 1 rfl).1;have E6:f.heap.size<=w7.heap.size:=ux.2.size;have wg:=aY yi (show N+4<=f.drew.heap.size from zj);have C4:∀s∈ss,s.inn (N+4) w7:=λs hs=>(wl s hs).mono (show N+4<=f.drew.heap.size from zj);refine d _ _ yk ?_;clear d
   try go_simp
   refine zO 4 rfl λK' d=> ?_;go_simp;obtain⟨G,hG⟩:=zE w7.heap.size;obtain⟨W8,vd⟩:=zE (w7.alloc (uc #[tS nm,tU tM 0 0,ua y.1,tS y.2,tU ao ss.length c,Z U ln,Z U cl] 233))
   try rw[hG]
   try rw[vd]
   have A:=il vd;have yp:W8.heap[G]?=tG (uc #[tS nm,tU tM 0 0,ua y.1,tS y.2,tU ao ss.length c,Z U ln,Z U cl] 233 (0,0)):=by rw[<-vd,<-hG];exact alloc_at _ _
   have wj:=(A.block (N+3) (aa vc)).trans vc;refine d _ _ (vy.out _ (rowAt wj 1 rfl).1) ?_;clear d
   try go_simp
   refine zO 5 rfl λK' d=> ?_;have AF:N+4<=W8.heap.size:=by have:=A.size;omega
   refine aI (.tmp 33) (.tmp 36) 177 rfl (N+4) 233 j0 _ 7 104 underlying177 EV E0 E2 E3 rfl (by decide) (tU tM 0 0) 0 [] rfl (World.ownsRow_nil _ _ _ _) (tG ⟨G,0,tM⟩) 1 1 [tS nm,tU tM 0 0,ua y.1,tS y.2,tU ao ss.length c,Z U ln,Z U cl] rfl rfl (λh=>by cases h) (λad AH jj uu hu=>by
    obtain rfl:(⟨G,0,tM⟩:fS)=ad:=by simpa using AH
    rw[cY,cL,bw _ _ _ _ _ _ yp];simpa using hu) (by simp[ct]) (by unfold eC;omega) (by omega) AF ?_
   intro v9 w9 vf yq AI;obtain⟨g9,c9,AK,E7,Fc⟩:=fZ vf;subst AK;have J:Ext (λ_=>me) W8 w9:=Ext.of_grown yq (λq o=>by cases o);have vh:=J.heap wj (λh=>h);have yr:S w9:=vy.out _ (rowAt vh 1 rfl).1;obtain⟨⟨r0,r1⟩,⟨s0,s1⟩,Fi⟩:=dz vh;refine d _ _ yr ?_;clear d
   try go_simp
   refine zT 6 rfl uv.out ?_
   try go_simp
   refine zK rfl λK' d=> ?_;go_simp;refine d _ _ ?_;clear d;refine⟨by kernel_rfl, ?_⟩;obtain⟨WF,vm⟩:=zE (w9.setCell ⟨N+3,1,tM⟩ (tU (tG ⟨g9,0,tM⟩) 1 c9))
   try rw[vm]
   have K:Ext (·=N+3) w9 WF:=by rw[<-vm];exact Ext.set1 w9 (N+3) 1 _
   have yv:Ext (·=N+2) f w9:=(((Ext.refl (·=N+2) f).drew.trans we (λq h=> .inl h)).trans (Ext.of_below_size (M:=λ_=>me) A) (λq h=>h.elim)).trans J (λq h=>h.elim);have yy:Ext (λq=>q=N+2\/q=N+3) f WF:=(yv.mono (λq h=> .inl h)).trans K (λq h=> .inl (.inr h));have xf:Ext (λq=>q=N+2\/q=N+3) wr WF:=(Ext.of_below_size (M:=λq=>q=N+2\/q=N+3) vu.out).trans yy (λq h=> .inl h);have wk:Rd (N+2) lb cap T (m+1) WF:=((ux.1.grow A).ext J (λh=>h) (λh=>h)).ext K (by omega) (by have:=CH.out;omega);have yW:WF.heap[N+3]?=tG (uc #[tU (tG ⟨p.pA,0,tM⟩) 1 p.pC,tU (tG ⟨g9,0,tM⟩) 1 c9] 179 (0,0)):=by rw[<-vm];exact bk w9 (N+3) 1 _ _ _ vh
   have vr:∀{e:gt}{size n:bh}{v:cA}{xs:bj cA},wr.ownsRow (N+4) e size v n xs->WF.ownsRow (N+4) e size v n xs:=λh=>ah h xf (λq o e=>by have:=(ai h o).1;omega);have zc:GA lb cap T snm l nm y vt k m N R WF:= .inr (.inr ⟨⟨p.snm,p.fs,p.fA,p.fC,p.sl,p.sc,nm,y,ss,ao,c,ln,cl,p.pA,p.pC,g9,c9⟩,⟨wk,HX.out.trans xf (λq h=> .inl h)⟩,AS.out,AT.out,rfl,rfl,ye,
    ⟨vr AW.out,vr A0.out,ah (ah (ownsRow_below wg A) J (λq _ h=>h)) K (λq o e=>by have:=(ai wg o).1;omega),
     λs hs=>(((C4 s hs).ext (Ext.of_below_size (M:=λ_=>me) A) (λ_ _ _ h=>h)).ext J (λ_ _ _ h=>h)).ext K (λq h1 _=>by omega),
     ah vf K (λq o e=>by have:=(ai vf o).1;omega)⟩,yW⟩)
   have Fk:k+2<T.length:=by omega
   clear wl C4 vr;have AM:=zH (gH wk);have AN:=zH zc;clear vm K yv yy xf wk yW zc yq AI vf wg yi ye we ux vc wj vh J A yp vd hG yk yr r0 r1 s0 s1;go_wp2;go_roundw
   case rel=>exact AN.out
   case measure=>
    rw[AM.out,AD.out];omega
  ·have E:=zH ue
   have HX:=zH hx;have HP:=zH hP;have AS:=zH xj;have AT:=zH xo;have AW:=zH xp;have A0:=zH xt;have Fl:=zH CM;have ur:=zH CN;clear ue hx hP xj xo xp xt CM CN;have xF:=λW=>sJ 5 e2.text e2.n e2.ln e2.cl W;have Fm:cj (∀W,aE wr.heap.size wr W->zS 171 #[tW (tG ⟨N+2,0,tM⟩)] W (ua tR)):=λW hW=>Ax.out (m+1) W (E.out.grow hW)
   go_upto_region 11 with(first
    |(go_at_call 170;refine(At.out (m+1) _ wr DH.out E.out).mono ?_;rw[DM.out];rintro e w5 ⟨rfl,vq⟩;have g:=zH vq;clear vq)
    |(go_at_call 171;refine(Fm.out w5 g.out).mono ?_;rintro e f ⟨rfl,rfl⟩))
   clear xF;have A1:=(g.out.block (N+3) (aa HP.out)).trans HP.out;have A2:=HX.out.heap DS.out (show¬(N=N+2\/N=N+3) by omega);have A3:=HX.out.heap D0.out (show¬(N+1=N+2\/N+1=N+3) by omega);have A4:=(g.out.block N (aa A2)).trans A2;have A5:=(g.out.block (N+1) (aa A3)).trans A3;have Fo:=zH A4;have Fr:=zH A5;unfold Pg.cells at A1;obtain⟨⟨p0,p1⟩,⟨q0,q1⟩,CT⟩:=dz A1;obtain⟨⟨b0,b1⟩,⟨d0,d1⟩,Ge⟩:=dz A4;obtain⟨⟨e0,e1,Gk,e3⟩,⟨f0,f1,f2,f3⟩,GB⟩:=mP A5;clear A1 A2 A3 A4 A5;go_wp2;(try simp only[dk,Exit.then]);have C5:∀W u0 u1,Ext (·=N) W ((W.setCell ⟨N,0,tM⟩ u0).setCell ⟨N,1,tM⟩ u1):=λW u0 u1=>ae (ae (Ext.refl _ _) _) _;have C6:∀W u0 u1 u2 u3,Ext (·=N+1) W ((((W.setCell ⟨N+1,0,tM⟩ u0).setCell ⟨N+1,1,tM⟩ u1).setCell ⟨N+1,2,tM⟩ u2).setCell ⟨N+1,3,tM⟩ u3):=λW u0 u1 u2 u3=>ae (ae (ae (ae (Ext.refl _ _) _) _) _) _;refine er (dF rfl _ _ N (N+1) 179 113 _ _ (0,0) (0,0) _ _ rfl ((C6 _ _ _ _ _).heap (bf Fo.out) (show¬N=N+1 by omega)) rfl (jw ((C5 _ _ _).heap Fr.out (show¬N+1=N by omega))) underlying179 (by kernel_rfl) pw (by kernel_rfl)) rfl ?_;have Ft:Ext (λ_=>me) wr w5:=Ext.of_below_size g.out;have A6:Ext (λq=>q=N\/q=N+1) wr _:=((Ft.mono (λ_ h=>h.elim)).trans (C5 w5 (tU (tG ⟨p.pA,0,tM⟩) 1 p.pC) (tU (tG ⟨p.qA,0,tM⟩) 1 p.qC)) (λq h=> .inl (.inl h))).trans (C6 _ (Z U 0) (Z U 0) (Z U 0) (Z U 0)) (λq h=> .inl (.inr h));have vr:∀{e:gt}{size n:bh}{v:cA}{xs:bj cA},wr.ownsRow (N+4) e size v n xs->_:=λ{e size n v xs} h=>aY (ah (e:=e) (size:=size) (n:=n) (v:=v) (xs:=xs) h A6 (λq o e=>by have:=(ai h o).1;omega)) (show w.heap.size<=N+4 by omega);refine⟨p,rfl,AS.out,AT.out,AW.out,A0.out,Fl.out,⟨vr ur.out.fields,vr ur.out.strs,vr ur.out.stmts,λs hs=>((ur.out.exprs s hs).ext A6 (λq h1 _=>by omega)).mono (by omega),vr ur.out.fns⟩, ?_⟩;rw[hN];exact DQ.out.trans ((HX.out.below (by rw[CD.out];omega) (λq h=>by omega)).trans (A6.below (eJ (by rw[CD.out];omega) HX.out.size) (λq h=>by omega)))
theorem xP {α:Type}{f:α->bj cA}{m:bh}(e:∀x,(f x).length=m):∀(l:bj α)(k j:bh)(x:α)(u:cA),l[k]?=tG x->(f x)[j]?=tG u->(l.flatMap f)[k*m+j]?=tG u
 |[],k,_,_,_,h,_=>by simp at h
 |y::l,0,j,x,u,h,d=>by
  obtain rfl:y=x:=by simpa using h
  rw[fW,Nat.zero_mul,cL,mB (bl.1 d).1];exact d
 |y::l,k+1,j,x,u,h,d=>by
  have ih:=xP e l k j x u (by simpa using h) d;rw[fW,hZ (by rw[e];rw[sq];omega),e,show(k+1)*m+j-m=k*m+j by rw[sq];omega];exact ih
theorem ww {α:Type}{f:α->bj cA}{m base n g c:bh}(o:∀x,(f x).length=m){w:World}{e:gt}{l:bj α}(h:w.ownsRow base e m (tU (tG ⟨g,0,tM⟩) n c) n (l.flatMap f)){k j:bh}{x:α}{u:cA}(q:l[k]?=tG x)(t:(f x)[j]?=tG u):
  w.cell? ⟨g,k*m+j,tM⟩=tG u:=by
 have d:=h.cells (g:=g) rfl (k*m+j) u (xP o l k j x u q t);rw[cY,cL] at d;exact d
def Fu (w:World)(Q:bj qD->Prop)(f:bm)(l:bj (bm×Ty))(nm:bm)(y:Ty)(e:Ending)(w':World):Prop:=∃d,Q d/\xO w f l nm y d e w'
theorem xQ (s:bm)(R:bj BD)(n0:bh)(Q:bj qD->Prop)(K nm:bm)(l:bj (bm×Ty))(y:Ty)(w:World)(hs:s.size<=1000000)(xt:oF s)(h0:s.size≠0)(hR:lH s n0 (gG s s.size 0)=tG R)
  (hT:∀T:bj Tok,T.map Tok.sig=R++[(5,⟨#[]⟩,0)]->∃d,Q d/\sK T K l nm y d):
  ge am 92 #[tS s] w (Fu w Q K l nm y):=by
 obtain⟨N,x⟩:=zE w.heap.size;obtain⟨W2,o⟩:=zE ((w.alloc (uc #[tU tM 0 0,tU tM 0 0] 179)).alloc (uc #[Z U 0,Z U 0,Z U 0,Z U 0] 113));have vq:=vX o x;have vr:W2.heap.size=N+2:=by rw[<-o];simp[x]
 have vt:=vY o x;have vu:=zl o x;have xF:=zH (xD s R n0 W2 hs xt h0 hR);have hst:∀(w:World)(c:eA cA),c.size=4->(dt ⟨w.heap.size,0,tM⟩ [Z U 0,Z U 0,Z U 0,Z U 0] 0).run am (w.alloc (uc c 113))= .ok () (w.alloc (uc #[Z U 0,Z U 0,Z U 0,Z U 0] 113)):=λw c hc=>
  cx (P:=am) w 113 c #[Z U 0,Z U 0,Z U 0,Z U 0] (by show _=tG 4;kernel_rfl) hc (by simp[ct])
 have xT:=zH hst;have HT:=zH hT;have yb:=zH o;have yd:=zH vq;have z:=zH vr;have ye:=zH vt;have yi:=zH vu;have yk:cj (∀(lb cap:bh)(T:bj Tok)(d:bj qD)(W:World),xN W lb T->lb<W.heap.size->sK T K l nm y d->ge am 129 #[tU (tG ⟨lb,0,tM⟩) T.length cap] W (xO W K l nm y d)):=λlb cap T d W A h2 h3=>uP W A h2 h3;clear hR hT o vq vr vt vu hst;go_enter func92,ntmps92
 go_upto_region 2 with(go_at_call 128;rw[yb.out];refine xF.out.mono ?_;rintro e w3 ⟨v,T,rfl,ue,vx,vy⟩;obtain⟨d,hQ,vc⟩:=HT.out T vx;obtain⟨q,E⟩:∃q,T.length=q+1:=⟨T.length-1,by obtain⟨_,_,k,j,m,t,_,_,_,_,_,_,_,_,_,_,_,a1,_⟩:=vc;have:=(bl.1 a1).1;omega⟩;obtain⟨lb,cap,hv,yp,we⟩:=fZ (by rw[E] at ue;exact ue);rw[<-E] at hv;subst hv;have yq:=zH ue;have yr:=zH vc;have HQ:=zH hQ;have wg:=zH vy;have wj:=zH we;have yv:=xT.out w3;clear ue vx vy vc hQ E yp we)
 clear yv;obtain⟨D,hD⟩:=zE w3.heap.size;obtain⟨g,up⟩:=zE (w3.alloc (uc #[Z U 0,Z U 0,Z U 0,Z U 0] 113));rw[hD,up];have ur:=il up;have wk:aE W2.heap.size W2 g:=wg.out.trans (ur.mono wg.out.size);have wl:g.heap[D]?=tG (uc #[Z U 0,Z U 0,Z U 0,Z U 0] 113 (0,0)):=by rw[<-up,<-hD];exact alloc_at _ _
 have ws:xN g lb T:=λk t ht j u hu=>(ur.cell (p:=⟨lb,k*5+j,tM⟩) wj.out).trans (ww (f:=uG) (λ_=>rfl) yq.out ht hu);have xf:lb<g.heap.size:=cH wj.out ur.size;have yy:=zH (yk.out lb cap T d g ws xf yr.out);have vd:=zH wk;obtain⟨⟨c0,c1,c2,c3⟩,_,zj⟩:=mP wl;clear hD up ur wk wl ws xf
 go_wp2_with (go_at_call 129;refine yy.out.mono ?_;rintro e w5 ⟨p,rfl,A,h2,h3,h4,h5,h6,vf⟩;have G:=zH (And.intro A (And.intro h2 (And.intro h3 (And.intro h4 h5))));have J:=zH h6;have zp:=zH vf;have uv:=vd.out.trans (vf.mono vd.out.size);have xj:=zH uv;have vh:=(uv.block N (by rw[z.out];omega)).trans ye.out;have vm:=(uv.block (N+1) (by rw[z.out];omega)).trans yi.out;have yW:=zH vh;have zc:=zH vm;obtain⟨⟨b0,b1⟩,⟨d0,d1⟩,zs⟩:=dz vh;obtain⟨⟨e0,e1,zv,e3⟩,⟨f0,f1,f2,f3⟩,An⟩:=mP vm;clear A h2 h3 h4 h5 h6 vf uv vh vm;unfold Pg.cells)
 (try simp only[dk,Exit.then]);have xo:∀W u0 u1,Ext (·=N) W ((W.setCell ⟨N,0,tM⟩ u0).setCell ⟨N,1,tM⟩ u1):=λW u0 u1=>ae (ae (Ext.refl _ _) _) _;have xp:∀W u0 u1 u2 u3,Ext (·=N+1) W ((((W.setCell ⟨N+1,0,tM⟩ u0).setCell ⟨N+1,1,tM⟩ u1).setCell ⟨N+1,2,tM⟩ u2).setCell ⟨N+1,3,tM⟩ u3):=λW u0 u1 u2 u3=>ae (ae (ae (ae (Ext.refl _ _) _) _) _) _;refine er (dF rfl _ _ N (N+1) 179 113 _ _ (0,0) (0,0) _ _ rfl ((xp _ _ _ _ _).heap (bf yW.out) (show¬N=N+1 by omega)) rfl (jw ((xo _ _ _).heap zc.out (show¬N+1=N by omega))) underlying179 (by kernel_rfl) pw (by kernel_rfl)) rfl ?_;have vp:Ext (λq=>q=N\/q=N+1) w5 _:=((xo w5 (tU (tG ⟨p.pA,0,tM⟩) 1 p.pC) (tU (tG ⟨p.qA,0,tM⟩) 1 p.qC)).mono (λq h=> .inl h)).trans (xp _ (Z U 0) (Z U 0) (Z U 0) (Z U 0)) (λq h=> .inl (.inr h));have At:N+2<=g.heap.size:=by rw[<-z.out];exact vd.out.size
 have ux:∀{e:gt}{size n:bh}{v:cA}{xs:bj cA},w5.ownsRow g.heap.size e size v n xs->_:=λ{e size n v xs} h=>aY (ah (e:=e) (size:=size) (n:=n) (v:=v) (xs:=xs) h vp (λq E e=>by have:=(ai h E).1;omega)) (show w.heap.size<=g.heap.size by omega);refine⟨d,HQ.out,p,rfl,G.out.1,G.out.2.1,G.out.2.2.1,G.out.2.2.2.1,G.out.2.2.2.2,⟨ux J.out.fields,ux J.out.strs,ux J.out.stmts,λs hs=>((J.out.exprs s hs).ext vp (λq A _=>by omega)).mono (by omega),ux J.out.fns⟩, ?_⟩;rw[x];exact yd.out.trans ((xj.out.mono (by rw[z.out];omega)).trans (vp.below (eJ (by rw[z.out];omega) xj.out.size) (λq h=>by omega)))
structure jI (p:Pg)(L:bh)(w:World):Prop where
 lo:L<=w.heap.size
 pA:p.pA<L
 s:∀j u,p.stc[j]?=tG u->w.cell? ⟨p.pA,j,tM⟩=tG u
 qA:p.qA<L
 f:∀j u,p.fnc[j]?=tG u->w.cell? ⟨p.qA,j,tM⟩=tG u
 fd:aJ Fd.cells 5 w L p.fA p.fs
 st:aJ Sm.cells 9 w L p.bA p.ss
 ex:∀x∈p.ss,(x.es=[]/\x.E= tU tM 0 0)\/∃g cap,x.E= tU (tG ⟨g,0,tM⟩) x.es.length cap/\g<L/\∀(k:bh)(e:Ex),x.es[k]?=tG e->∀(j:bh)(u:cA),e.cells.toList[j]?=tG u->w.cell? ⟨g,k*7+j,tM⟩=tG u
 lfs:p.fs.length<=1000000
 lss:p.ss.length<=1000000
 cb:p.ss.length<=p.bC
theorem jI.ext {p:Pg}{L:bh}{w w':World}{M:bh->Prop}(h:jI p L w)(E:Ext M w w')(J:∀k,k<L->¬M k):jI p L w':=by
 have v:∀b o,b<L->w'.cell? ⟨b,o,tM⟩=w.cell? ⟨b,o,tM⟩:=λb o G=>E.cell (a:=⟨b,o,tM⟩) (cH G h.lo) (J b G);refine⟨eJ h.lo E.size,h.pA,λj u d=>by rw[v _ _ h.pA];exact h.s j u d,h.qA,λj u d=>by rw[v _ _ h.qA];exact h.f j u d,λz=> ?_,λz=> ?_,λx K=> ?_,h.lfs,h.lss,h.cb⟩
 ·obtain⟨b,A,t,q,y⟩:=h.fd z
  exact⟨b,A,t,q,λi x hi k u d=>by rw[v _ _ q];exact y i x hi k u d⟩
 ·obtain⟨b,A,t,q,y⟩:=h.st z
  exact⟨b,A,t,q,λi x hi k u d=>by rw[v _ _ q];exact y i x hi k u d⟩
 ·rcases h.ex x K with t|⟨g,cap,t,q,y⟩
  ·exact .inl t
  ·exact .inr ⟨g,cap,t,q,λk e R j u d=>by rw[v _ _ q];exact y k e R j u d⟩
theorem jI.grow {p:Pg}{L:bh}{w w':World}(h:jI p L w)(d:aE w.heap.size w w'):jI p L w':=h.ext (Ext.of_below_size (M:=λ_=>me) d) (λ_ _ h=>h)
theorem fH {α:Type}{cells:α->eA cA}{m base n:bh}(j:∀x,(cells x).toList.length=m){w:World}{e:gt}{ao:cG fS}{c:bh}{l:bj α}(h:w.ownsRow base e m (tU ao n c) n (l.flatMap λx=>(cells x).toList))(z:n=l.length):aJ cells m w w.heap.size ao l:=by
 intro o;obtain⟨q,t⟩:∃q,n=q+1:=⟨n-1,by have:=ms.2 o;omega⟩
 subst t;obtain⟨g,A,d,_,v⟩:=fZ h;simp only[fm] at d;obtain⟨rfl,_,rfl⟩:=d;exact⟨g,0,rfl,v,λi x hi k u y=>by rw[cL];exact ww (f:=λx=>(cells x).toList) j h hi y⟩
theorem xR {w:World}{base n m c:bh}{e:gt}{ao:cG fS}{xs:bj cA}(h:w.ownsRow base e m (tU ao n c) n xs):n<=c:=by
 rcases h.2 with⟨d,f⟩|⟨g,cap,j,d,_,_,o,_⟩
 ·omega
 ·simp only[fm] at d
  omega
theorem Dz {p:Pg}{B:bh}{w:World}(h:p.inn B w)(y:p.fs.length<=1000000)(z:p.ss.length<=1000000):jI p w.heap.size w:=by
 obtain⟨K,c1,q,_,A⟩:=fZ h.strs;obtain⟨R,c2,t,_,E⟩:=fZ h.fns;simp only[fm,dd,eR] at q t;obtain⟨⟨rfl,_⟩,_,rfl⟩:=q;obtain⟨⟨rfl,_⟩,_,rfl⟩:=t;refine⟨cg _,A,λj u d=> ?_,E,λj u d=> ?_,fH (cells:=Fd.cells) (m:=5) (λ_=>rfl) h.fields rfl,fH (cells:=Sm.cells) (m:=9) (λ_=>rfl) h.stmts rfl,λx G=> ?_,y,z,xR h.stmts⟩
 ·have:=h.strs.cells (g:=p.pA) rfl j u d
  rwa [cY,cL] at this
 ·have:=h.fns.cells (g:=p.qA) rfl j u d
  rwa [cY,cL] at this
 ·rcases h.exprs x G with o|⟨g,cap,o,h2,v⟩
  ·exact .inl o
  ·refine .inr ⟨g,cap,o,aa v,λk e J j u d=> ?_⟩
   rw[bw _ _ _ _ _ _ v];have:=xP (f:=Jj) (m:=7) (λ_=>rfl) x.es k j e u J d;simpa using this
structure Ck (c:bh)(p:Pg)(L:bh)(f0 f1 f2 f3 f4 f5 f6:cA)(sA:cG fS)(sC:bh)(S:bj Fd)(w:World):Prop where
 row:w.heap[c]?=tG (uc #[tU (tG ⟨p.pA,0,tM⟩) 1 p.pC,tU (tG ⟨p.qA,0,tM⟩) 1 p.qC,f0,f1,f2,f3,f4,f5,f6,tU sA S.length sC,Z U 0,Z U 0,Z U 0,Z U 0,Z U 0] 275 (0,0))
 pg:jI p L w
 hc:L<=c
 seen:aJ Fd.cells 5 w w.heap.size sA S
 ls:S.length<=1000000
 nc:∀a,S≠[]->sA=tG a->a.block≠c
section
variable {c:bh}{p:Pg}{L:bh}{f0 f1 f2 f3 f4 f5 f6:cA}{sA:cG fS}{sC:bh}{S:bj Fd}{w w':World}
theorem Ck.grow (h:Ck c p L f0 f1 f2 f3 f4 f5 f6 sA sC S w)(d:aE w.heap.size w w'):Ck c p L f0 f1 f2 f3 f4 f5 f6 sA sC S w':=
 ⟨(d.block c (aa h.row)).trans h.row,h.pg.grow d,h.hc,aJ.grow h.seen d,h.ls,h.nc⟩
end
theorem dM {c:bh}{p:Pg}{L:bh}{f0 f1 f2 f3 f4 f5 f6:cA}{sA:cG fS}{sC:bh}{S:bj Fd}(w:World)(h:Ck c p L f0 f1 f2 f3 f4 f5 f6 sA sC S w):
  zS 178 #[tW (tG ⟨c,0,tM⟩)] w (ua tR):=by
 have c1:=(rowAt h.row 11 rfl).1;have d:=aa h.row;clear h;go_enter func178,ntmps178;go_wp2;go_ret;exact⟨rfl,rfl⟩
theorem bX {c:bh}{p:Pg}{L:bh}{f0 f1 f2 f3 f4 f5 f6:cA}{sA:cG fS}{sC:bh}{S:bj Fd}(f a b:aw)(w:World)(h:Ck c p L f0 f1 f2 f3 f4 f5 f6 sA sC S w):
  zP 176 #[tW (tG ⟨c,0,tM⟩),ua tP,Z U f,ub #[Z U a,Z U b]] w (ua tP):=by
 obtain⟨W1,d⟩:=zE (w.alloc (uc #[Z U a,Z U b] 40));have g:=il d;have j:=zH (dM W1 (h.grow g));have o:=zH d;have q:=zH g;clear h d g;go_enter func176,ntmps176
 go_wp2_with (go_at_call 178;(try rw[o.out]);refine j.out.mono ?_;rintro e W1 ⟨rfl,rfl⟩)
 go_ret;exact⟨rfl,q.out⟩
def oJ (p:Pg)(nm:bm):aw:=if p.snm==nm then 0 else-1
def Fv (p:Pg)(nm:bm):aw:=if p.nm==nm then 0 else-1
theorem gU {p:Pg}{L:bh}(nm:bm)(w:World)(h:jI p L w):
  zP 212 #[ub p.cells,tS nm] w (Z U (oJ p nm)):=by
 obtain⟨N,e⟩:=zE w.heap.size;unfold Pg.cells;obtain⟨W1,d⟩:=zE (w.alloc (uc #[tU (tG ⟨p.pA,0,tM⟩) 1 p.pC,tU (tG ⟨p.qA,0,tM⟩) 1 p.qC] 179));have f:=iR d e;have j:W1.heap[N]?=tG (uc #[tU (tG ⟨p.pA,0,tM⟩) 1 p.pC,tU (tG ⟨p.qA,0,tM⟩) 1 p.qC] 179 (0,0)):=by rw[<-d,<-e];exact alloc_at _ _
 obtain⟨⟨c0,c1⟩,_,v⟩:=dz j;have o:=h.grow (by rw[e];exact f);have x:=o.s 0 _ rfl;obtain⟨b,g⟩:=zE (p.snm==nm);have y:(p.snm.toList==nm.toList)=b:=by rw[<-fY];exact g
 have q:cj (oJ p nm=if b=tP then 0 else-1):=by unfold cj oJ;rw[g]
 rw[q.out];have u:=zH d;have t:=zH f;clear h d f j o g q;go_enter func212,ntmps212;go_wp2;rw[u.out];cases b with
 |true=>
  go_loop [5] (λk=>k= Z U 0) (λ_=>0)
  case atStart=>rfl
  case round=>
   obtain rfl:=hrel;go_wp2;go_ret;exact⟨rfl,t.out⟩
 |false=>
  go_loop [5] (λk=>k= Z U 0\/k= Z U 1) (λk=>1-(de k).toNat)
  case atStart=>exact .inl rfl
  case round=>
   rcases hrel with rfl|rfl
   ·go_wp2
    go_round
    case rel=>exact .inr rfl
    case measure=>simp[de]
   ·go_wp2
    go_ret;exact⟨rfl,t.out⟩
theorem oK {p:Pg}{L:bh}(nm:bm)(w:World)(h:jI p L w):
  zP 177 #[ub p.cells,tS nm] w (Z U (Fv p nm)):=by
 obtain⟨N,e⟩:=zE w.heap.size;unfold Pg.cells;obtain⟨W1,d⟩:=zE (w.alloc (uc #[tU (tG ⟨p.pA,0,tM⟩) 1 p.pC,tU (tG ⟨p.qA,0,tM⟩) 1 p.qC] 179));have g:=iR d e;have o:W1.heap[N]?=tG (uc #[tU (tG ⟨p.pA,0,tM⟩) 1 p.pC,tU (tG ⟨p.qA,0,tM⟩) 1 p.qC] 179 (0,0)):=by rw[<-d,<-e];exact alloc_at _ _
 obtain⟨⟨c0,c1⟩,_,x⟩:=dz o;have q:=h.grow (by rw[e];exact g);have y:=q.f 0 _ rfl;obtain⟨b,j⟩:=zE (p.nm==nm);have z:(p.nm.toList==nm.toList)=b:=by rw[<-fY];exact j
 have t:cj (Fv p nm=if b=tP then 0 else-1):=by unfold cj Fv;rw[j]
 rw[t.out];have v:=zH d;have u:=zH g;clear h d g o q j t;go_enter func177,ntmps177;go_wp2;rw[v.out];cases b with
 |true=>
  go_loop [5] (λk=>k= Z U 0) (λ_=>0)
  case atStart=>rfl
  case round=>
   obtain rfl:=hrel;go_wp2;go_ret;exact⟨rfl,u.out⟩
 |false=>
  go_loop [5] (λk=>k= Z U 0\/k= Z U 1) (λk=>1-(de k).toNat)
  case atStart=>exact .inl rfl
  case round=>
   rcases hrel with rfl|rfl
   ·go_wp2
    go_round
    case rel=>exact .inr rfl
    case measure=>simp[de]
   ·go_wp2
    go_ret;exact⟨rfl,u.out⟩
theorem Fw (a b:mm)(s t:bm)(w:World):(gE 10000 32 (ub #[ua a,tS s]) (ub #[ua b,tS t])).run am w= .ok (((a,s):Ty)==(b,t)) w:=by
 have d:am.underlying 32=tG (.struct (am.fieldsOf 32)):=by kernel_rfl
 have f:am.stoodInHeld 32=tR:=by kernel_rfl
 rw[show(10000:bh)=9999+1 from rfl,run_equalIn_agg w 9999 32 _ _ d f];simp only[Program.fieldsOf,eM];have e:(((a,s):Ty)==(b,t))=(a==b&&s.toList==t.toList):=by rw[<-fY];rfl
 rw[e];go_simp
 by_cases g:a=b<;>by_cases h:s.toList=t.toList<;>simp[g,h]
theorem qE (a:mm)(s:bm)(w:World):zP 266 #[ub #[ua a,tS s],ub #[ua a,tS s]] w (ua tP):=by
 have f:∀w,(gE 10000 32 (ub #[ua a,tS s]) (ub #[ua a,tS s])).run am w= .ok tP w:=λw=>by rw[Fw];simp
 have g:am.eqGuardType am.depth 32=tR:=by kernel_rfl
 have d:aE w.heap.size w ((w.alloc (uc #[ua a,tS s] 32)).alloc (uc #[ua a,tS s] 32)):=((aq _ _).alloc (cg _) _).alloc (by simp) _;have e:=zH d;clear d;go_enter func266,ntmps266;go_wp2;go_ret;exact⟨rfl,e.out⟩
theorem qF {c:bh}{p:Pg}{L:bh}{f0 f1 f2 f3 f4 f5 f6:cA}{sA:cG fS}{sC:bh}{S:bj Fd}(nm:bm)(w:World)(h:Ck c p L f0 f1 f2 f3 f4 f5 f6 sA sC S w)(u:p.snm=nm):
  zP 213 #[tW (tG ⟨c,0,tM⟩),ub #[ua tP,tS nm]] w (ua tP):=by
 obtain⟨N,d⟩:=zE w.heap.size;obtain⟨W1,e⟩:=zE (w.alloc (uc #[ua tP,tS nm] 32));have j:=iR e d;have f:W1.heap[N]?=tG (uc #[ua tP,tS nm] 32 (0,0)):=by rw[<-e,<-d];exact alloc_at _ _
 have o:=aa f;have g:=h.grow (by rw[d];exact j);have t0:∀q:BW W1,q.w.cell? ⟨N,0,tM⟩=tG (ua tP):=λq=>(rowAt ((q.h.block N o).trans f) 0 rfl).1;have t1:∀q:BW W1,q.w.cell? ⟨N,1,tM⟩=tG (tS nm):=λq=>(rowAt ((q.h.block N o).trans f) 1 rfl).1;have c0:∀q:BW W1,q.w.cell? ⟨c,0,tM⟩=tG (tU (tG ⟨p.pA,0,tM⟩) 1 p.pC):=λq=>(rowAt (g.grow q.h).row 0 rfl).1;have c1:∀q:BW W1,q.w.cell? ⟨c,1,tM⟩=tG (tU (tG ⟨p.qA,0,tM⟩) 1 p.qC):=λq=>(rowAt (g.grow q.h).row 1 rfl).1;have t:∀q:BW W1,zP 212 #[ub p.cells,tS nm] q.w (Z U 0):=λq=>by
  have:=gU nm q.w (g.grow q.h).pg;unfold oJ at this;rw[u,iS] at this;exact this
 unfold Pg.cells at t;have v:=zH t;have x:=zH e;have y:=zH j;clear h u e j f g t;go_enter func213,ntmps213
 go_upto_region 1 with(fail)
 rw[x.out];refine zQ ?_
 repeat (go_big_quiet_step ((go_at_call 212;exact bE (v.out _))))
 refine dj ?_;rintro _ ⟨q,rfl⟩;go_wp2;go_ret;exact⟨rfl,by(try rw[d]);exact y.out.trans (q.h.mono (nx o))⟩
theorem zG {c:bh}{p:Pg}{L:bh}{f0 f1 f2 f3 f4 f5 f6:cA}{sA:cG fS}{sC:bh}{S:bj Fd}(nm:bm)(w:World)(_:Ck c p L f0 f1 f2 f3 f4 f5 f6 sA sC S w):
  zP 213 #[tW (tG ⟨c,0,tM⟩),ub #[ua tR,tS nm]] w (ua tP):=by
 obtain⟨N,e⟩:=zE w.heap.size;obtain⟨W1,d⟩:=zE (w.alloc (uc #[ua tR,tS nm] 32));have g:=iR d e;have f:W1.heap[N]?=tG (uc #[ua tR,tS nm] 32 (0,0)):=by rw[<-d,<-e];exact alloc_at _ _
 have j:=aa f;have t0:∀q:BW W1,q.w.cell? ⟨N,0,tM⟩=tG (ua tR):=λq=>(rowAt ((q.h.block N j).trans f) 0 rfl).1;have o:=zH d;have t:=zH g;clear d g f;go_enter func213,ntmps213
 go_upto_region 1 with(fail)
 rw[o.out];refine zQ ?_
 repeat (go_big_quiet_step (fail))
 refine dj ?_;rintro _ ⟨q,rfl⟩;go_wp2;go_ret;exact⟨rfl,by(try rw[e]);exact t.out.trans (q.h.mono (nx j))⟩
def j3 (S:bj Fd)(nm:bm):cG Fd:=S.find? λf=>f.nm==nm
def Fy:cG Fd->Ty
 |some f=>f.ty
 |none=>bM
def qa (S:bj Fd)(nm:bm):Ty:=Fy (j3 S nm)
theorem kJ {c:bh}{p:Pg}{L:bh}{f0 f1 f2 f3 f4 f5 f6:cA}{sA:cG fS}{sC:bh}{S:bj Fd}(nm:bm)(w:World)(h:Ck c p L f0 f1 f2 f3 f4 f5 f6 sA sC S w):
  zP 214 #[tW (tG ⟨c,0,tM⟩),tS nm] w (.tuple #[ub #[ua (qa S nm).1,tS (qa S nm).2],ua (j3 S nm).isSome]):=by
 obtain⟨N,q⟩:=zE w.heap.size;obtain⟨W1,z⟩:=zE (w.alloc (uc #[ua tR,tS ⟨#[]⟩] 32));have G:=iR z q;have J:W1.heap[N]?=tG (uc #[ua tR,tS ⟨#[]⟩] 32 (0,0)):=by rw[<-z,<-q];exact alloc_at _ _
 have t:=h.grow (by rw[q];exact G);have c9:W1.cell? ⟨c,9,tM⟩=tG (tU sA S.length sC):=(rowAt t.row 9 rfl).1;have vh:=aa t.row;obtain⟨⟨t0,t1⟩,⟨q0,q1⟩,vm⟩:=dz J;have ux:=zH t.seen;have vp:=t.ls;obtain⟨R,A⟩:=zE (j3 S nm);obtain⟨Y,hY⟩:=zE (qa S nm);have up:Fy R=Y:=by rw[<-hY,<-A];rfl
 rw[A,hY];have E:=zH A;have u:=zH up;have vc:=zH z;have ur:=zH G;have uv:=zH J;clear h z G J t A hY up;go_enter func214,ntmps214;go_wp2;rw[vc.out]
 go_loop [6] (λk=>∃j:bh,k= Z U (j:aw)/\j<=S.length/\j3 (S.drop j) nm=R) (λk=>S.length-(de k).toNat)
 case atStart=>exact⟨0,rfl,cN _,E.out⟩
 case round=>
  obtain⟨j,rfl,hj,f⟩:=hrel
  by_cases o:j<S.length
  ·have vq:(j:aw)<(S.length:aw):=by omega
   obtain⟨x,g⟩:∃x,S[j]?=tG x:=⟨_,ap o⟩
   have K:S.drop j=x::S.drop (j+1):=by
    rw[jn o];have:S[j]=x:=by rw[ap o] at g;exact cE g
    rw[this]
   rw[K] at f;unfold j3 at f;obtain⟨b,vr,hA,vt,v⟩:=ux.out (by intro e;rw[e] at o;simp at o);have k0:=v j x g 0 _ rfl;have k1:=v j x g 1 _ rfl;have k2:=v j x g 2 _ rfl;rw[ki] at k0;rw[hA] at c9;obtain⟨d,y⟩:=zE (x.nm==nm);have vu:(x.nm.toList==nm.toList)=d:=by rw[<-fY];exact y
   cases d with
   |true=>
    rw[List.find?_cons_of_pos (by exact y)] at f;subst f;have ue:cj (x.ty=Y):=u.out;clear E u g K v hA y;go_wp2;(try simp only[dk,Exit.then]);refine er (aN rfl _ _ N 32 _ (0,0) _ rfl (bf uv.out) eM (by kernel_rfl)) rfl ?_;rw[<-ue.out];(try rw[q]);exact⟨rfl,(ur.out.setCell (by show N<=N;omega) _).setCell (by show N<=N;omega) _⟩
   |false=>
    rw[List.find?_cons_of_neg (by rw[y];simp)] at f;have HZ:cj (∃j':bh,eS .i64 ((j:aw)+1)= Z U (j':aw)/\j'<=S.length/\j3 (S.drop j') nm=R):=⟨j+1,by simp,o,f⟩
    clear E u g K v hA y f;go_wp2
    go_round
    case rel=>exact HZ.out
    case measure=>simp[de];omega
  ·have vd:j=S.length:=by omega
   subst vd;rw[List.drop_length] at f;unfold j3 at f;have vf:(tM:cG Fd)=R:=f;subst vf;have ue:cj (bM=Y):=u.out;clear E u f;go_wp2;(try simp only[dk,Exit.then]);refine er (aN rfl _ _ N 32 _ (0,0) _ rfl (bf uv.out) eM (by kernel_rfl)) rfl ?_;rw[<-ue.out];(try rw[q]);exact⟨rfl,(ur.out.setCell (by show N<=N;omega) _).setCell (by show N<=N;omega) _⟩
theorem Ca {c:bh}{p:Pg}{L:bh}{f0 f1 f2 f3 f4 f5 f6:cA}{sA:cG fS}{sC:bh}{S:bj Fd}(n:aw)(nm:bm)(q t:aw)(w:World)(h:Ck c p L f0 f1 f2 f3 f4 f5 f6 sA sC S w):
  zP 265 #[tW (tG ⟨c,0,tM⟩),ub #[Z U 1,Z U n,tS nm,tS ⟨#[]⟩,tU tM 0 0,Z U q,Z U t]] w (ub #[ua tR,tS ⟨#[]⟩]):=by
 obtain⟨N,f⟩:=zE w.heap.size;obtain⟨d,j⟩:=zE ((w.alloc (uc #[Z U 1,Z U n,tS nm,tS ⟨#[]⟩,tU tM 0 0,Z U q,Z U t] 313)).alloc (uc #[ua tR,tS ⟨#[]⟩] 32));obtain⟨o,g⟩:=zE (d.alloc (uc #[ua tR,tS ⟨#[]⟩] 32));have u:=vX j f;have v:d.heap.size=N+2:=by rw[<-j];simp[f]
 have x:aE N w o:=by rw[<-g];exact u.alloc (by omega) _
 have y:o.heap.size=N+3:=by rw[<-g];simp[v]
 have z:o.heap[N]?=tG (uc #[Z U 1,Z U n,tS nm,tS ⟨#[]⟩,tU tM 0 0,Z U q,Z U t] 313 (0,0)):=by
  rw[<-g];refine(cJ _ _ N (by omega)).trans ?_;rw[<-j,<-f];exact kp _ _ _
 have A:o.heap[N+1]?=tG (uc #[ua tR,tS ⟨#[]⟩] 32 (0,0)):=by
  rw[<-g];refine(cJ _ _ (N+1) (by omega)).trans ?_;rw[<-j,<-f];exact jp _ _ _
 have E:o.heap[N+2]?=tG (uc #[ua tR,tS ⟨#[]⟩] 32 (0,0)):=by rw[<-g,<-v];exact alloc_at _ _
 have G:=h.grow (by rw[f];exact u);have K:=h.grow (by rw[f];exact x);have R:=zH (dM d G);have hst:∀(c:eA cA),c.size=2->(dt ⟨d.heap.size,0,tM⟩ [ua tR,tS ⟨#[]⟩] 0).run am (d.alloc (uc c 32))= .ok () (d.alloc (uc #[ua tR,tS ⟨#[]⟩] 32)):=λc hc=>
  cx (P:=am) d 32 c #[ua tR,tS ⟨#[]⟩] (by show _=tG 2;kernel_rfl) hc (by simp[ct])
 have ue:=zH hst;have up:=zH j;have ur:=zH g;have uv:=zH x;have vf:=zH y;have ux:=zH z;have J:=zH A;have vc:=zH E;clear h j g u x y z A E G K hst;go_enter func265,ntmps265
 go_upto_region 3 with(go_at_call 178;rw[up.out];refine R.out.mono ?_;rintro e d ⟨rfl,rfl⟩)
 have vd:=ue.out
 go_upto_region 4 with(fail)
 rw[ur.out];(try simp only[v]);clear vd;obtain⟨⟨a0,a1,a2,a3,a4,a5,a6⟩,_,vh⟩:=eZ ux.out;obtain⟨⟨b0,b1⟩,⟨d0,d1⟩,vm⟩:=dz J.out;obtain⟨⟨e0,e1⟩,_,vp⟩:=dz vc.out;go_wp2;(try simp only[dk,Exit.then]);refine er (fk (P:=am) rfl _ _ (N+1) 32 _ (0,0) _ rfl (bf J.out) eM rfl (by kernel_rfl)) rfl ?_;(try rw[f]);exact⟨rfl,(uv.out.setCell (by show N<=N+1;omega) _).setCell (by show N<=N+1;omega) _⟩
theorem Cb {c:bh}{p:Pg}{L:bh}{f0 f1 f2 f3 f4 f5 f6:cA}{sA:cG fS}{sC:bh}{S:bj Fd}(n:aw)(nm:bm)(t u:aw)(w:World)(h:Ck c p L f0 f1 f2 f3 f4 f5 f6 sA sC S w){d:Fd}(hl:j3 S nm=tG d):
  zP 265 #[tW (tG ⟨c,0,tM⟩),ub #[Z U 2,Z U n,tS nm,tS ⟨#[]⟩,tU tM 0 0,Z U t,Z U u]] w (ub #[ua d.ty.1,tS d.ty.2]):=by
 obtain⟨N,j⟩:=zE w.heap.size;obtain⟨g,q⟩:=zE ((w.alloc (uc #[Z U 2,Z U n,tS nm,tS ⟨#[]⟩,tU tM 0 0,Z U t,Z U u] 313)).alloc (uc #[ua tR,tS ⟨#[]⟩] 32));obtain⟨f,o⟩:=zE (g.alloc (uc #[ua tR,tS ⟨#[]⟩] 32));have y:=vX q j;have z:g.heap.size=N+2:=by rw[<-q];simp[j]
 have A:aE N w f:=by rw[<-o];exact y.alloc (by omega) _
 have uv:f.heap.size=N+3:=by rw[<-o];simp[z]
 have ux:f.heap[N]?=tG (uc #[Z U 2,Z U n,tS nm,tS ⟨#[]⟩,tU tM 0 0,Z U t,Z U u] 313 (0,0)):=by
  rw[<-o];refine(cJ _ _ N (by omega)).trans ?_;rw[<-q,<-j];exact kp _ _ _
 have vc:f.heap[N+1]?=tG (uc #[ua tR,tS ⟨#[]⟩] 32 (0,0)):=by
  rw[<-o];refine(cJ _ _ (N+1) (by omega)).trans ?_;rw[<-q,<-j];exact jp _ _ _
 have vd:f.heap[N+2]?=tG (uc #[ua tR,tS ⟨#[]⟩] 32 (0,0)):=by rw[<-o,<-z];exact alloc_at _ _
 have h2:=h.grow (by rw[j];exact y);have E:=h.grow (by rw[j];exact A);have vx:=zH (dM g h2);have hst:∀(c:eA cA),c.size=2->(dt ⟨g.heap.size,0,tM⟩ [ua tR,tS ⟨#[]⟩] 0).run am (g.alloc (uc c 32))= .ok () (g.alloc (uc #[ua tR,tS ⟨#[]⟩] 32)):=λc J=>
  cx (P:=am) g 32 c #[ua tR,tS ⟨#[]⟩] (by show _=tG 2;kernel_rfl) J (by simp[ct])
 have vy:=zH hst;have we:=zH q;have wg:=zH o;have wj:=zH A;have wk:=zH uv;have vf:=zH ux;have vh:=zH vc;have wl:=zH vd;have ws:cj (∀W,aE f.heap.size f W->zP 176 #[tW (tG ⟨c,0,tM⟩),ua tP,Z U 5,ub #[Z U t,Z U u]] W (ua tP)):=λW hW=>bX 5 t u W (E.grow hW);have xf:cj (zP 214 #[tW (tG ⟨c,0,tM⟩),tS nm] f (.tuple #[ub #[ua d.ty.1,tS d.ty.2],ua tP])):=by
  have:=kJ nm f E;unfold qa at this;rw[hl] at this;exact this
 have vm:∀(w:World)(c:eA cA),c.size=2->(dt ⟨w.heap.size,0,tM⟩ [ua d.ty.1,tS d.ty.2] 0).run am (w.alloc (uc c 32))= .ok () (w.alloc (uc #[ua d.ty.1,tS d.ty.2] 32)):=λw c J=>
  cx (P:=am) w 32 c #[ua d.ty.1,tS d.ty.2] (by show _=tG 2;kernel_rfl) J (by simp[ct])
 have xj:=zH vm;clear h q o y A uv ux vc vd h2 E hst hl vm;go_enter func265,ntmps265
 go_upto_region 3 with(go_at_call 178;rw[we.out];refine vx.out.mono ?_;rintro e g ⟨rfl,rfl⟩)
 have xo:=vy.out
 go_upto_region 4 with(fail)
 rw[wg.out];(try simp only[z]);clear xo;obtain⟨⟨a0,a1,a2,a3,a4,a5,a6⟩,_,xp⟩:=eZ vf.out;obtain⟨⟨b0,b1⟩,⟨d0,d1⟩,xt⟩:=dz vh.out;obtain⟨⟨e0,e1⟩,_,yq⟩:=dz wl.out
 go_upto_region 7 with(go_at_call 214;refine xf.out.mono ?_;rintro e K ⟨rfl,vp⟩;have xF:=zH vp;have xT:=xj.out K;clear vp)
 clear xT;obtain⟨G,R⟩:=zE K.heap.size;obtain⟨W5,v⟩:=zE (K.alloc (uc #[ua d.ty.1,tS d.ty.2] 32));rw[R,v];have x:=zD v xF;have ue:W5.heap[G]?=tG (uc #[ua d.ty.1,tS d.ty.2] 32 (0,0)):=by rw[<-v,<-R];exact alloc_at _ _
 have vq:=(x.block N xp).trans vf.out;have vr:=zH x;have yb:=zH ue;have yd:=zH (ws.out W5 x);obtain⟨⟨x0,x1,x2,x3,x4,x5,x6⟩,_,_⟩:=eZ vq;have ye:=aa ue;clear R v x ue vq
 go_upto_region 8 with(go_at_call 176;refine yd.out.mono ?_;rintro e w6 ⟨rfl,up⟩;have vt:=zH (vr.out.trans (up.mono vr.out.size));have yi:=zH up;clear up)
 have vu:=(yi.out.block G ye).trans yb.out;have ur:=(vt.out.block (N+1) xt).trans vh.out;have yk:=zH ur;obtain⟨⟨y0,y1⟩,_,_⟩:=dz vu;obtain⟨⟨b0,b1⟩,⟨d0,d1⟩,yr⟩:=dz ur;have yp:cj (aE N w w6):=wj.out.trans (vt.out.mono (by rw[wk.out];omega));clear vu ur;go_wp2;(try simp only[dk,Exit.then]);refine er (fk (P:=am) rfl _ _ (N+1) 32 _ (0,0) _ rfl (bf yk.out) eM rfl (by kernel_rfl)) rfl ?_;(try rw[j]);exact⟨rfl,(yp.out.setCell (by show N<=N+1;omega) _).setCell (by show N<=N+1;omega) _⟩
theorem Cc {c:bh}{p:Pg}{L:bh}{f0 f1 f2 f3 f4 f5 f6:cA}{sA:cG fS}{sC:bh}{S:bj Fd}(n:aw)(nm:bm)(o t:aw)(w:World)(h:Ck c p L f0 f1 f2 f3 f4 f5 f6 sA sC S w)(K:p.snm=nm):
  zP 265 #[tW (tG ⟨c,0,tM⟩),ub #[Z U 7,Z U n,tS nm,tS ⟨#[]⟩,tU tM 0 0,Z U o,Z U t]] w (ub #[ua tP,tS nm]):=by
 obtain⟨N,g⟩:=zE w.heap.size;obtain⟨f,u⟩:=zE ((w.alloc (uc #[Z U 7,Z U n,tS nm,tS ⟨#[]⟩,tU tM 0 0,Z U o,Z U t] 313)).alloc (uc #[ua tR,tS ⟨#[]⟩] 32));obtain⟨d,j⟩:=zE (f.alloc (uc #[ua tR,tS ⟨#[]⟩] 32));have y:=vX u g;have z:f.heap.size=N+2:=by rw[<-u];simp[g]
 have A:aE N w d:=by rw[<-j];exact y.alloc (by omega) _
 have R:d.heap.size=N+3:=by rw[<-j];simp[z]
 have ue:d.heap[N]?=tG (uc #[Z U 7,Z U n,tS nm,tS ⟨#[]⟩,tU tM 0 0,Z U o,Z U t] 313 (0,0)):=by
  rw[<-j];refine(cJ _ _ N (by omega)).trans ?_;rw[<-u,<-g];exact kp _ _ _
 have up:d.heap[N+1]?=tG (uc #[ua tR,tS ⟨#[]⟩] 32 (0,0)):=by
  rw[<-j];refine(cJ _ _ (N+1) (by omega)).trans ?_;rw[<-u,<-g];exact jp _ _ _
 have ur:d.heap[N+2]?=tG (uc #[ua tR,tS ⟨#[]⟩] 32 (0,0)):=by rw[<-j,<-z];exact alloc_at _ _
 have h2:=h.grow (by rw[g];exact y);have v:=h.grow (by rw[g];exact A);have ux:=zH (dM f h2);have hst:∀(c:eA cA),c.size=2->(dt ⟨f.heap.size,0,tM⟩ [ua tR,tS ⟨#[]⟩] 0).run am (f.alloc (uc c 32))= .ok () (f.alloc (uc #[ua tR,tS ⟨#[]⟩] 32)):=λc hc=>
  cx (P:=am) f 32 c #[ua tR,tS ⟨#[]⟩] (by show _=tG 2;kernel_rfl) hc (by simp[ct])
 have vc:=zH hst;have vd:=zH u;have vf:=zH j;have vh:=zH A;have vm:=zH R;have x:=zH ue;have uv:=zH up;have vp:=zH ur;have vq:cj (∀q:BW d,zP 176 #[tW (tG ⟨c,0,tM⟩),ua tP,Z U 5,ub #[Z U o,Z U t]] q.w (ua tP)):=λq=>bX 5 o t q.w (v.grow q.h);have E:∀q:BW d,zP 212 #[ub p.cells,tS nm] q.w (Z U 0):=λq=>by
  have:=gU nm q.w (v.grow q.h).pg;unfold oJ at this;rw[K,iS] at this;exact this
 unfold Pg.cells at E;have vr:=zH E;have c0:∀q:BW d,q.w.cell? ⟨c,0,tM⟩=tG (tU (tG ⟨p.pA,0,tM⟩) 1 p.pC):=λq=>(rowAt (v.grow q.h).row 0 rfl).1;have c1:∀q:BW d,q.w.cell? ⟨c,1,tM⟩=tG (tU (tG ⟨p.qA,0,tM⟩) 1 p.qC):=λq=>(rowAt (v.grow q.h).row 1 rfl).1;have C0:=zH c0;have C1:=zH c1;clear h u j y A R ue up ur h2 v hst K E c0 c1;go_enter func265,ntmps265
 go_upto_region 3 with(go_at_call 178;rw[vd.out];refine ux.out.mono ?_;rintro e f ⟨rfl,rfl⟩)
 have vt:=vc.out
 go_upto_region 4 with(fail)
 rw[vf.out];(try simp only[z]);clear vt;obtain⟨⟨a0,a1,a2,a3,a4,a5,a6⟩,_,G⟩:=eZ x.out;obtain⟨⟨b0,b1⟩,⟨d0,d1⟩,vu⟩:=dz uv.out;obtain⟨⟨e0,e1⟩,_,we⟩:=dz vp.out
 go_upto_region 26 with(fail)
 clear a0 a1 a2 a3 a4 a5 a6 b0 b1 d0 d1 e0 e1;have c0:=C0.out;have c1:=C1.out;have x2:∀q:BW d,q.w.cell? ⟨N,2,tM⟩=tG (tS nm):=λq=>(rowAt ((q.h.block N G).trans x.out) 2 rfl).1;have x5:∀q:BW d,q.w.cell? ⟨N,5,tM⟩=tG (Z U o):=λq=>(rowAt ((q.h.block N G).trans x.out) 5 rfl).1;have x6:∀q:BW d,q.w.cell? ⟨N,6,tM⟩=tG (Z U t):=λq=>(rowAt ((q.h.block N G).trans x.out) 6 rfl).1;refine zQ ?_
 repeat (go_big_quiet_step (first
  |(go_at_call 212;exact bE (vr.out _))
  |(go_at_call 176;exact bE (vq.out _))))
 refine dj ?_;rintro _ ⟨q,rfl⟩;have z2:=x2 q;have J:=(q.h.block (N+1) vu).trans uv.out;have vx:=zH J;obtain⟨⟨b0,b1⟩,⟨d0,d1⟩,wg⟩:=dz J;have vy:cj (aE N w q.w):=vh.out.trans (q.h.mono (by rw[vm.out];omega));clear c0 c1 x2 x5 x6 J;go_wp2;(try simp only[dk,Exit.then]);refine er (fk (P:=am) rfl _ _ (N+1) 32 _ (0,0) _ rfl (bf vx.out) eM rfl (by kernel_rfl)) rfl ?_;(try rw[g]);exact⟨rfl,(vy.out.setCell (by show N<=N+1;omega) _).setCell (by show N<=N+1;omega) _⟩
end Go.Proofs.YtjomgckjhcfbgaaGreat
