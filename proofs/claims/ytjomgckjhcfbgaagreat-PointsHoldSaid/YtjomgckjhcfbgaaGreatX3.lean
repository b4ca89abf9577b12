/- Walks. -/
import Derived.Test.YtjomgckjhcfbgaaGreatX2
set_option maxRecDepth 100000
set_option maxHeartbeats 64000000
set_option linter.all false
namespace Go.Proofs.YtjomgckjhcfbgaaGreat
open Go.RowKit
open Go.Proofs.Tryz renaming prog→ac,underlying32→dr,underlying113→mL
open _root_.List renaming getElem?_eq_getElem→am,getElem?_eq_some_iff→bl,mem_of_getElem?→ce,take_length→cT,flatMap_cons→dp,drop_eq_getElem_cons→dT,getElem?_append_right→fi,any_eq_true→ju,getElem?_append_left→mB,drop_length→n8,length_pos_iff→oY
open Go.RowKit.Below renaming refl→an,heap_alloc→bt,heap_setCell→cQ
open Go.RowKit renaming Below→aq,Hid→ca
open _root_ renaming ByteArray→aw,List→bm,Nat→cd,Int→cj,Array→cG,beq_eq_false_iff_ne→cR,Option→du,False→jp,decide_eq_true_eq→js,beq_iff_eq→nB,beq_self_eq_true→oX
open Go renaming heap_setCell_same→aE,cell_of_row→bh,Value→bw,run_storeCells_new→cf,storeCells→cU,bodyPost_ret→da,wpQuiet_nil→db,maxLen→dl,results_cell_row→dv,beq_toListBytes→eL,Calls→ft,heap_alloc2_old→fN,TypeId→ge,heap_alloc2_new→jn,info_parts→ld,Addr→oA
open _root_.Nat renaming le_refl→bp,lt_of_lt_of_le→cn,le_trans→cE,zero_add→cH,zero_le→cJ,add_zero→kO,le_of_lt→mT,succ_mul→oy
open Go.Value renaming oneCell'→br,int→eC,ownBlock→eN,string→qT,slice→ra,pointer→rb,bool→re,agg→rh,int→Z
open Go.Exit renaming inBlock→cL
open Go.Addr renaming add_lit→cM
open _root_.Option.some renaming inj→cX,injEq→dc
open Go.Addr.mk renaming injEq→eW
open Go.Value.slice renaming injEq→fz
open Go.Op renaming equalIn→fS
open _root_.Option renaming some→qt,none→qu
open _root_.Bool renaming true→qv,false→qS
open Go.Obj renaming cells→rj
open Go.Ending renaming returned→rk
open Go.IntKind renaming i64→U
open Tryz
theorem Sm.inn.other {f q:cd}{w w':World}{s:Sm}{o:cG bw}{t:ge}{u:cd×cd}(h:s.inn f w)(v:w.heap[q]?=qt (rj o t u))(y:t≠313)(A:Ext (·=q) w w'):s.inn f w':=by
 rcases h with h|⟨g,cap,D,G,d⟩
 ·exact .inl h
 ·refine .inr ⟨g,cap,D,G,A.heap d (λe=> ?_)⟩
  subst e;rw[v] at d;simp only[dc,Obj.cells.injEq] at d;exact y d.2.1
def zu (r lb cap:cd)(T:bm Tok)(w:World)(nm:aw)(y:Ty)(f:bm nP)(k:cd)(e:Ending)(w':World):Prop:=
 ∃(d:du oA) (c:cd) (ss:bm Sm) (h o:cj),e= rk (rh #[qT nm,ra qu 0 0,re y.1,qT y.2,ra d ss.length c,Z U h,Z U o])/\ss.map Sm.shp=f/\
  w'.ownsRow w.heap.size 282 9 (ra d ss.length c) ss.length (ss.flatMap Ed)/\(∀s∈ss,s.inn w.heap.size w')/\bu r lb cap T k w w'
theorem nk {r lb cap:cd}{T:bm Tok}{i j k:cd}{t x u v o z:Tok}{y:Ty}{sf:bm nP}(w:World)(h:Rd r lb cap T i w)(ht:T[i]?=qt t)(hy:uo T i y j)(hx:T[j]?=qt x)(te:x.kind=1)(hu:T[j+1]?=qt u)(tf:cO u dY=qv)
  (R:T[j+2]?=qt v)(sk:cO v lY=qv)(ho:T[j+3]?=qt o)(th:cO o kV=qv)(D:gL T (j+4) sf k)(hz:T[k]?=qt z)(f:cO z ik=qv):
  ft ac 174 #[rb (qt ⟨r,0,qu⟩)] w (zu r lb cap T w x.text y sf (k+1)):=by
 obtain⟨N,A⟩:=zE w.heap.size;obtain⟨W1,rl⟩:=zE (w.alloc (rj #[qT ⟨#[]⟩,ra qu 0 0,re qS,qT ⟨#[]⟩,ra qu 0 0,Z U 0,Z U 0] 233));have sn:=gQ rl A;have ti:W1.heap.size=N+1:=by rw[<-rl];simp[A]
 have tj:W1.heap[N]?=qt (rj #[qT ⟨#[]⟩,ra qu 0 0,re qS,qT ⟨#[]⟩,ra qu 0 0,Z U 0,Z U 0] 233 (0,0)):=by rw[<-rl,<-A];exact alloc_at _ _
 have G:=h.grow (by rw[A];exact sn);have tl:=zH (bi W1 G ht);have vh:ca (∀W,Rd r lb cap T i W->ft ac 209 #[rb (qt ⟨r,0,qu⟩)] W λe w'=>e= rk (rh #[re y.1,qT y.2])/\bu r lb cap T j W w'):=λW d=>nO W d hy;have vi:ca (∀W,Rd r lb cap T j W->ft ac 208 #[rb (qt ⟨r,0,qu⟩)] W λe w'=>e= rk (.tuple #[qT x.text,rh #[Z U x.ln,Z U x.cl]])/\bu r lb cap T (j+1) W w'):=λW d=>dD W d hx te;have tm:ca (∀W,Rd r lb cap T (j+1) W->ft ac 207 #[rb (qt ⟨r,0,qu⟩),qT dY] W λe w'=>e= rk (.tuple #[])/\bu r lb cap T (j+2) W w'):=λW d=>aT dY W d hu tf;have sq:ca (∀W,Rd r lb cap T (j+2) W->zP 172 #[rb (qt ⟨r,0,qu⟩),qT lY] W (re (cO v lY))):=λW d=>aW lY W d R;rw[sk] at sq;have tn:ca (∀W,Rd r lb cap T (j+2) W->ft ac 207 #[rb (qt ⟨r,0,qu⟩),qT lY] W λe w'=>e= rk (.tuple #[])/\bu r lb cap T (j+3) W w'):=λW d=>aT lY W d R sk;have vj:ca (∀W,Rd r lb cap T (j+3) W->ft ac 210 #[rb (qt ⟨r,0,qu⟩),Z U 0] W (vX r lb cap T W sf (k+1))):=λW d=>rA 0 (by decide) (by decide) W d ho th D hz f;unfold dY at tm;unfold lY at sq tn;simp only[Tok.cells] at tl;have hst:∀(w:World)(c:cG bw),c.size=7->(cU ⟨w.heap.size,0,qu⟩ [qT ⟨#[]⟩,ra qu 0 0,re qS,qT ⟨#[]⟩,ra qu 0 0,Z U t.ln,Z U t.cl] 0).run ac (w.alloc (rj c 233))= .ok () (w.alloc (rj #[qT ⟨#[]⟩,ra qu 0 0,re qS,qT ⟨#[]⟩,ra qu 0 0,Z U t.ln,Z U t.cl] 233)):=λw c hc=>
  cf (P:=ac) w 233 c #[qT ⟨#[]⟩,ra qu 0 0,re qS,qT ⟨#[]⟩,ra qu 0 0,Z U t.ln,Z U t.cl] (by show _=qt 7;kernel_rfl) hc (by simp[br])
 have vm:=zH hst;have xf:r<N:=by rw[<-A];exact h.rlt
 have rn:ca (lb<N):=by unfold ca;rw[<-A];exact h.lt
 have vn:=zH rl;have vp:=zH sn;have tp:=zH ti;have vq:=zH tj;have H1:=zH G;have HN:=zH A;clear h ht hy hx te hu tf R sk ho th D hz f rl sn ti tj G hst;have vr:=λW=>Bo t.kind t.text t.n t.ln t.cl W;go_enter func174,ntmps174
 go_upto_region 2 with(go_at_call 170;rw[vn.out];refine tl.out.mono ?_;rintro e w2 ⟨rfl,tr⟩;have vt:=vm.out w2;have tt:=zH tr;clear tr)
 clear vt vr;obtain⟨B,hB⟩:=zE w2.heap.size;obtain⟨W3,rr⟩:=zE (w2.alloc (rj #[qT ⟨#[]⟩,ra qu 0 0,re qS,qT ⟨#[]⟩,ra qu 0 0,Z U t.ln,Z U t.cl] 233));rw[hB,rr];have rv:=zD rr tt;have xj:N+1<=B:=by rw[<-hB,<-tp.out];exact tt.out.size
 have tv:W3.heap[B]?=qt (rj #[qT ⟨#[]⟩,ra qu 0 0,re qS,qT ⟨#[]⟩,ra qu 0 0,Z U t.ln,Z U t.cl] 233 (0,0)):=by rw[<-rr,<-hB];exact alloc_at _ _
 have tz:=(rv.block N (by have:=tp.out;omega)).trans vq.out;have tA:bu r lb cap T i w W3:=⟨H1.out.grow rv,(Ext.of_below_size (M:=(·=r)) (show aq w.heap.size w W1 by rw[A];exact vp.out)).trans (Ext.of_below_size (M:=(·=r)) rv) (λk f=> .inl f)⟩
 have tB:=zH tA;have vu:=zH tv;have vx:=zH tz;clear hB rr rv tv tz tA
 go_upto_region 3 with(go_at_call 209;refine(vh.out W3 tB.out.1).mono ?_;rintro e w4 ⟨rfl,sr⟩;have tD:=zH sr;have sx:=sr.2.heap vu.out (by omega);have vy:=zH sx;obtain⟨⟨a0,a1,a2,a3,a4,a5,a6⟩,⟨b0,b1,b2,b3,b4,b5,b6⟩,rx⟩:=dC sx;clear sr sx)
 obtain⟨W5,rB⟩:=zE ((w4.setCell ⟨B,2,qu⟩ (re y.1)).setCell ⟨B,3,qu⟩ (qT y.2));rw[rB];have rI:Ext (·=B) w4 W5:=by rw[<-rB];exact af (af (Ext.refl _ _) _) _
 have tE:W5.heap[B]?=qt (rj #[qT ⟨#[]⟩,ra qu 0 0,re y.1,qT y.2,ra qu 0 0,Z U t.ln,Z U t.cl] 233 (0,0)):=by
  rw[<-rB];have G:_=qt (Obj.cells #[qT ⟨#[]⟩,ra qu 0 0,re y.1,qT ⟨#[]⟩,ra qu 0 0,Z U t.ln,Z U t.cl] 233 (0,0)):=aE w4 B 2 _ _ (re y.1) vy.out;exact aE _ B 3 _ _ (qT y.2) G
 have tG:=rI.heap (tD.out.2.heap vx.out (by omega)) (show¬N=B by omega);have sy:=tB.out.trans tD.out;have tM:bu r lb cap T j w W5:=⟨sy.1.ext rI (by omega) (by have:=rn.out;omega),sy.2.trans rI (λk f=> .inr (by omega))⟩
 have tP:=zH tM;have wa:=zH tE;have wb:=zH tG;clear rB rI tE tG sy tM a0 a1 a2 a3 a4 a5 a6 b0 b1 b2 b3 b4 b5 b6 rx
 go_upto_region 4 with(go_at_call 208;refine(vi.out W5 tP.out.1).mono ?_;rintro e w6 ⟨rfl,sB⟩;have tR:=zH sB;have sE:=sB.2.heap wa.out (by omega);have we:=zH sE;obtain⟨⟨a0,a1,a2,a3,a4,a5,a6⟩,⟨b0,b1,b2,b3,b4,b5,b6⟩,rx⟩:=dC sE;clear sB sE)
 obtain⟨W7,rK⟩:=zE (w6.setCell ⟨B,0,qu⟩ (qT x.text));rw[rK];have rL:Ext (·=B) w6 W7:=by rw[<-rK];exact af (Ext.refl _ _) _
 have tS:W7.heap[B]?=qt (rj #[qT x.text,ra qu 0 0,re y.1,qT y.2,ra qu 0 0,Z U t.ln,Z U t.cl] 233 (0,0)):=by rw[<-rK];exact aE _ B 0 _ _ _ we.out
 have tU:=rL.heap (tR.out.2.heap wb.out (by omega)) (show¬N=B by omega);have sL:=tP.out.trans tR.out;have tW:bu r lb cap T (j+1) w W7:=⟨sL.1.ext rL (by omega) (by have:=rn.out;omega),sL.2.trans rL (λk f=> .inr (by omega))⟩
 have sR:=zH tW;have ua:=zH tS;have wg:=zH tU;clear rK rL tS tU sL tW a0 a1 a2 a3 a4 a5 a6 b0 b1 b2 b3 b4 b5 b6 rx
 go_upto_region 5 with(go_at_call 207;refine(tm.out W7 sR.out.1).mono ?_;rintro e w8 ⟨rfl,ub⟩;have uc:=zH ub;clear ub)
 go_loopw [4] (λ_ wr=>wr=w8) (λ_ _=>0)
 case atStart=>rfl
 case round=>
  obtain rfl:=hrel
  go_upto_region 11 with(go_at_call 172;refine(sq.out _ uc.out.1).mono ?_;rintro e w9 ⟨rfl,ud⟩;have wi:=zH ud;clear ud)
  have ue:=zH (uc.out.grow wi.out)
  go_upto_region 12 with(go_at_call 207;refine(tn.out _ ue.out.1).mono ?_;rintro e wj ⟨rfl,ur⟩;have rm:=zH (ue.out.trans ur);clear ur)
  have uv:w.heap.size<=wj.heap.size:=cE sR.out.2.size rm.out.2.size
  go_upto_region 13 with(go_at_call 210;refine(vj.out _ rm.out.1).mono ?_;rintro e J ⟨v,ss,rfl,ux,rN,va,sT⟩;obtain⟨K,c,R⟩:=av rN;subst R;have wk:=zH ux;have wl:=zH (aP rN uv);have wn:ca (∀s∈ss,s.inn w.heap.size J):=(λs D=>(va s D).mono uv);have vc:=zH (rm.out.trans sT);have sX:=(rm.out.trans sT).2.heap ua.out (by omega);have vd:ca (∀q,eN (ra K ss.length c)=qt q->B<q):=(λq hq=>by have G:=(ai rN hq).1;have h2:=aa (rm.out.2.heap ua.out (by omega));omega);have ws:=zH sX;obtain⟨⟨a0,a1,a2,a3,a4,a5,a6⟩,⟨b0,b1,b2,b3,b4,b5,b6⟩,rx⟩:=dC sX;clear ux rN va sT sX)
  have sY:=vc.out.2.heap wg.out (show¬N=r by omega);have wx:=zH sY;obtain⟨⟨p0,p1,p2,p3,p4,p5,p6⟩,⟨q0,q1,q2,q3,q4,q5,q6⟩,xl⟩:=dC sY;clear sY;go_wp2;(try simp only[cL,Exit.then]);have vf:(J.setCell ⟨B,4,qu⟩ (ra K ss.length c)).heap[N]?=_:=(cQ _ _ _ N (by show N≠B;omega)).trans wx.out;refine da (dv (P:=ac) rfl _ _ N 233 _ (0,0) _ rfl (fq vf) underlying233 rfl (by kernel_rfl)) rfl ?_;have rS:Ext (·=B) J (J.setCell ⟨B,4,qu⟩ (ra K ss.length c)):=Ext.set1 J B 4 _;have se:=bM (J.setCell ⟨B,4,qu⟩ (ra K ss.length c)) N (qT x.text) (ra qu 0 0) (re y.1) (qT y.2) (ra K ss.length c) (Z U t.ln) (Z U t.cl);have hM:=(sR.out.trans vc.out)
  refine⟨K,c,ss,t.ln,t.cl,rfl,wk.out, ?_,λs D=> ?_,(hM.1.ext rS (by omega) (by have:=rn.out;omega)).ext se (by omega) (by have:=rn.out;omega),(hM.2.trans rS (λk f=> .inr (by omega))).trans se (λk f=> .inr (by omega))⟩
  ·exact ae (ae wl.out rS (λq hq e=>by have:=vd.out q hq;omega)) se (λq hq e=>by have:=vd.out q hq;omega)
  ·exact((wn.out s D).other ws.out (by decide) rS).other vf (by decide) se
def uA (w:World)(lb:cd)(T:bm Tok):Prop:=∀(k:cd)(t:Tok),T[k]?=qt t->∀(j:cd)(u:bw),t.cells.toList[j]?=qt u->w.cell? ⟨lb,k*5+j,qu⟩=qt u
def xV (T:bm Tok):Prop:=∀(k:cd)(t:Tok),T[k]?=qt t->(t.kind=5↔k+1=T.length)
theorem rC (lb cap:cd)(T:bm Tok)(w:World)(K:T.length<=1000000)(h0:0<T.length)(v:uA w lb T)(y:xV T):
  zS 169 #[ra (qt ⟨lb,0,qu⟩) T.length cap] w (re qv):=by
 have D:=zH v;have G:=zH y;clear v y;go_enter func169,ntmps169;go_wp2
 go_loop [3] (λk=>∃j:cd,j<=T.length/\k= Z U (j:cj)) (λk=>T.length-(intOf k).toNat)
 case atStart=>exact⟨0,cJ _,rfl⟩
 case round=>
  obtain⟨j,R,rfl⟩:=hrel
  by_cases q:j<T.length
  ·have J:(j:cj)<(T.length:cj):=by omega
   obtain⟨t,f⟩:∃t,T[j]?=qt t:=⟨_,am q⟩
   have A:=D.out j t f 0 _ rfl;rw[kO] at A;have o:=G.out j t f
   by_cases d:t.kind=5
   ·have u:j+1=T.length:=o.1 d
    rw[d] at A;have d1:((j:cj)==(T.length:cj)-1)=qv:=by rw[nB];omega
    clear f o d u;go_wp2
    go_round
    case rel=>exact⟨j+1,q,by go_num⟩
    case measure=>simp[intOf];omega
   ·have u:j+1≠T.length:=λh=>d (o.2 h)
    have d5:(t.kind==5)=qS:=by rw[cR];exact d
    have d1:((j:cj)==(T.length:cj)-1)=qS:=by rw[cR];omega
    clear f o d u;go_wp2
    go_round
    case rel=>exact⟨j+1,q,by go_num⟩
    case measure=>simp[intOf];omega
  ·have J:¬(j:cj)<(T.length:cj):=by omega
   have rl:(0:cj)<(T.length:cj):=by omega
   have rm:decide ((0:cj)<(T.length:cj))=qv:=by rw[js];omega
   go_wp2;go_ret;exact⟨rfl,rfl⟩
theorem CE:(ac.info? 90).map (λi=>(i.zero,i.size,i.bytes))=qt (qt (rh #[qT ⟨#[]⟩,ra qu 0 0,Z U 0,Z U 0]),4,56):=by kernel_rfl
theorem CF:(ac.info? 233).map (λi=>(i.zero,i.size,i.bytes))=qt (qt (rh #[qT ⟨#[]⟩,ra qu 0 0,re qS,qT ⟨#[]⟩,ra qu 0 0,Z U 0,Z U 0]),7,104):=by kernel_rfl
structure Pg where
 snm:aw
 fs:bm Fd
 fA:du oA
 fC:cd
 sl:cj
 sc:cj
 nm:aw
 ret:Ty
 ss:bm Sm
 bA:du oA
 bC:cd
 gl:cj
 gc:cj
 pA:cd
 pC:cd
 qA:cd
 qC:cd
def Pg.stc (p:Pg):bm bw:=[qT p.snm,ra p.fA p.fs.length p.fC,Z U p.sl,Z U p.sc]
def Pg.fnc (p:Pg):bm bw:=[qT p.nm,ra qu 0 0,re p.ret.1,qT p.ret.2,ra p.bA p.ss.length p.bC,Z U p.gl,Z U p.gc]
def Pg.cells (p:Pg):cG bw:=#[ra (qt ⟨p.pA,0,qu⟩) 1 p.pC,ra (qt ⟨p.qA,0,qu⟩) 1 p.qC]
structure Pg.inn (p:Pg)(B:cd)(w:World):Prop where
 fields:w.ownsRow B 92 5 (ra p.fA p.fs.length p.fC) p.fs.length (p.fs.flatMap qR)
 strs:w.ownsRow B 90 4 (ra (qt ⟨p.pA,0,qu⟩) 1 p.pC) 1 p.stc
 stmts:w.ownsRow B 282 9 (ra p.bA p.ss.length p.bC) p.ss.length (p.ss.flatMap Ed)
 exprs:∀s∈p.ss,s.inn B w
 fns:w.ownsRow B 233 7 (ra (qt ⟨p.qA,0,qu⟩) 1 p.qC) 1 p.fnc
def uB (w:World)(snm:aw)(l:bm (aw×Ty))(nm:aw)(y:Ty)(d:bm nP)(e:Ending)(w':World):Prop:=
 ∃p:Pg,e= rk (.tuple #[rh p.cells,rh #[Z U 0,Z U 0,Z U 0,Z U 0]])/\p.snm=snm/\p.fs.map Fd.shp=l/\p.nm=nm/\p.ret=y/\p.ss.map Sm.shp=d/\p.inn w.heap.size w'/\aq w.heap.size w w'
structure o8 (T:bm Tok)(snm:aw)(l:bm (aw×Ty))(nm:aw)(y:Ty)(shs:bm nP):Prop where
 ended:xV T
 short:T.length<=1000000
 toks:∃(k j m:cd) (t x u z z2 t2 x2 u2 v2 o2 s2 e2:Tok),T[0]?=qt t/\cO t iO=qv/\T[1]?=qt x/\x.kind=1/\x.text=snm/\T[2]?=qt u/\cO u kV=qv/\gy T 3 l k/\T[k]?=qt z/\cO z ik=qv/\T[k+1]?=qt z2/\cO z2 di=qv/\
  T[k+2]?=qt t2/\cO t2 iO=qS/\uo T (k+2) y j/\T[j]?=qt x2/\x2.kind=1/\x2.text=nm/\T[j+1]?=qt u2/\cO u2 dY=qv/\T[j+2]?=qt v2/\cO v2 lY=qv/\T[j+3]?=qt o2/\cO o2 kV=qv/\gL T (j+4) shs m/\T[m]?=qt s2/\cO s2 ik=qv/\
  T[m+1]?=qt e2/\e2.kind=5
def DL (N lb cap:cd)(T:bm Tok)(d:World)(j:cd)(wr:World):Prop:=Rd (N+2) lb cap T j wr/\Ext (λq=>q=N+2\/q=N+3) d wr
def CG (lb cap:cd)(T:bm Tok)(snm:aw)(l:bm (aw×Ty))(nm:aw)(y:Ty)(f:bm nP)(k m N:cd)(d:World)(wr:World):Prop:=
 (DL N lb cap T d 0 wr/\wr.heap[N+3]?=qt (rj #[ra qu 0 0,ra qu 0 0] 179 (0,0)))\/
 (∃p:Pg,DL N lb cap T d (k+2) wr/\p.snm=snm/\p.fs.map Fd.shp=l/\wr.ownsRow (N+4) 92 5 (ra p.fA p.fs.length p.fC) p.fs.length (p.fs.flatMap qR)/\wr.ownsRow (N+4) 90 4 (ra (qt ⟨p.pA,0,qu⟩) 1 p.pC) 1 p.stc/\
  wr.heap[N+3]?=qt (rj #[ra (qt ⟨p.pA,0,qu⟩) 1 p.pC,ra qu 0 0] 179 (0,0)))\/
 (∃p:Pg,DL N lb cap T d (m+1) wr/\p.snm=snm/\p.fs.map Fd.shp=l/\p.nm=nm/\p.ret=y/\p.ss.map Sm.shp=f/\p.inn (N+4) wr/\wr.heap[N+3]?=qt (rj p.cells 179 (0,0)))
theorem ed {w:World}{base:cd}{e:ge}{size n:cd}{v:bw}{xs:bm bw}(h:w.ownsRow base e size v (n+1) xs):∃g c,v= ra (qt ⟨g,0,qu⟩) (n+1) c/\base<=g/\g<w.heap.size:=by
 rcases h.2 with⟨_,d⟩|⟨g,cap,cur,f,d,o,_⟩
 ·cases d
 ·exact⟨g,cap,f,d,aa o⟩
theorem rD {lb cap:cd}{T:bm Tok}{snm nm:aw}{l:bm (aw×Ty)}{y:Ty}{sk:bm nP}(w:World)(sL:uA w lb T)(xF:lb<w.heap.size)(hx:o8 T snm l nm y sk):
  ft ac 129 #[ra (qt ⟨lb,0,qu⟩) T.length cap] w (uB w snm l nm y sk):=by
 obtain⟨he,hT,k,j,m,t,x,u,z,z2,t2,x2,u2,v2,o2,s2,e2,a1,a2,a3,a4,a5,a6,a7,a8,a9,vp,vq,vr,b1,b2,b3,b4,b5,b6,b7,b8,b9,vt,vu,vx,tG,vy,wa,c1,c2⟩:=hx;obtain⟨N,hN⟩:=zE w.heap.size;obtain⟨W2,sR⟩:=zE ((w.alloc (rj #[ra qu 0 0,ra qu 0 0] 179)).alloc (rj #[Z U 0,Z U 0,Z U 0,Z U 0] 113));obtain⟨W4,rS⟩:=zE ((W2.alloc (rj #[ra (qt ⟨lb,0,qu⟩) T.length cap,Z U 0,Z U 0,Z U 0,Z U 0,Z U 0] 269)).alloc (rj #[ra qu 0 0,ra qu 0 0] 179));have tM:=qQ sR hN;have tP:W2.heap.size=N+2:=by rw[<-sR];simp[hN]
 have tR:aq N w W4:=by rw[<-rS];exact(tM.alloc (by omega) _).alloc (by simp;omega) _
 have wb:W4.heap.size=N+4:=by rw[<-rS];simp[tP]
 have we:W4.heap[N]?=qt (rj #[ra qu 0 0,ra qu 0 0] 179 (0,0)):=by
  rw[<-rS];refine(bt _ _ N (by simp;omega)).trans ((bt _ _ N (by omega)).trans ?_);rw[<-sR,<-hN];exact fN _ _ _
 have wg:W4.heap[N+1]?=qt (rj #[Z U 0,Z U 0,Z U 0,Z U 0] 113 (0,0)):=by
  rw[<-rS];refine(bt _ _ (N+1) (by simp;omega)).trans ((bt _ _ (N+1) (by omega)).trans ?_);rw[<-sR,<-hN];exact jn _ _ _
 have wi:=vN rS tP;have wj:W4.heap[N+3]?=qt (rj #[ra qu 0 0,ra qu 0 0] 179 (0,0)):=by rw[<-rS,show N+3=W2.heap.size+1 by omega];exact jn _ _ _
 have xT:0<T.length:=by have:=(bl.1 a1).1;omega
 have wk:Rd (N+2) lb cap T 0 W4:=⟨wi,λq t ht jj u hu=>by rw[tR.cell (p:=⟨lb,q*5+jj,qu⟩) (by show lb<N;omega)];exact sL q t ht jj u hu,by omega,by omega,hT⟩
 have ya:ca (zS 169 #[ra (qt ⟨lb,0,qu⟩) T.length cap] W2 (re qv)):=rC lb cap T W2 hT xT (λq t ht jj u hu=>by rw[tM.cell (p:=⟨lb,q*5+jj,qu⟩) (by show lb<N;omega)];exact sL q t ht jj u hu) he;have tS:ca (∀(j:cd)(t:Tok) W,T[j]?=qt t->Rd (N+2) lb cap T j W->zP 170 #[rb (qt ⟨N+2,0,qu⟩)] W (rh #[Z U t.kind,qT t.text,Z U t.n,Z U t.ln,Z U t.cl])):=λj t W ht h=>bi W h ht;have tU:ca (∀(j:cd) W,Rd (N+2) lb cap T j W->zS 171 #[rb (qt ⟨N+2,0,qu⟩)] W (re qS)):=λj W hW=>bg W hW;have wl:ca (∀(j:cd)(t:Tok) W,T[j]?=qt t->Rd (N+2) lb cap T j W->zP 172 #[rb (qt ⟨N+2,0,qu⟩),qT ⟨#[115,116,114,117,99,116]⟩] W (re (cO t iO))):=λj t W ht hW=>aW iO W hW ht;have yb:ca (∀W,Rd (N+2) lb cap T 0 W->ft ac 173 #[rb (qt ⟨N+2,0,qu⟩)] W (zt (N+2) lb cap T W snm l (k+2))):=λW hW=>by
  rw[<-a5];exact lZ W hW a1 a2 a3 a4 a6 a7 a8 a9 vp vq vr
 have yd:ca (∀W,Rd (N+2) lb cap T (k+2) W->ft ac 174 #[rb (qt ⟨N+2,0,qu⟩)] W (zu (N+2) lb cap T W nm y sk (m+1))):=λW hW=>by
  rw[<-b6];exact nk W hW b1 b3 b4 b5 b7 b8 b9 vt vu vx tG vy wa
 have ye:(t.kind==5)=qS:=by rw[cR];have:=uw a2;omega
 have A0:m+1<T.length:=(bl.1 c1).1;have A1:k+2<m+1:=by
  have h1:=tG.le;obtain⟨_,_,_,h2⟩:=b3.first
  omega
 have yi:(t2.kind==5)=qS:=by
  rw[cR];intro h;have:=(he _ _ b1).1 h;omega
 have A2:(t.kind != 5)=qv:=by rw[bne,ye];rfl
 have A3:(t2.kind != 5)=qv:=by rw[bne,yi];rfl
 have wn:=zH a1;have yk:=zH a2;have ws:=zH b1;have yp:=zH b2;have yq:=zH c1;have yr:=zH c2;have yv:=zH sR;have yy:=zH rS;have yW:=zH tR;have wx:=zH wb;have A4:=zH tP;have zc:=zH we;have zd:=zH wg;have HN:=zH hN;have zj:ca (CG lb cap T snm l nm y sk k m N W4 W4):= .inl ⟨⟨wk,Ext.refl _ _⟩,wj⟩;obtain⟨i0,zp,zr,zv,An⟩:=ld CE;obtain⟨j0,As,At,Ax,AD⟩:=ld CF;have xf:ca (lb<N):=by unfold ca;omega
 clear sL xF he a1 a2 a3 a4 a5 a6 a7 a8 a9 vp vq vr b1 b2 b3 b4 b5 b6 b7 b8 b9 vt vu vx tG vy wa c1 c2 sR rS tM tR wb we wg wi wj wk;go_enter func129,ntmps129
 go_upto_region 5 with(go_at_call 169;rw[yv.out];refine ya.out.mono ?_;rintro e W2 ⟨rfl,rfl⟩)
 rw[yy.out];simp only[Nat.add_assoc,Nat.reduceAdd]
 go_loopw [14] (λ_ wr=>CG lb cap T snm l nm y sk k m N W4 wr) (λ_ wr=>oZ (N+2) T wr)
 case atStart=>exact zj.out
 case round=>
  rcases hrel with⟨⟨rm,hx⟩,hP⟩|⟨p,⟨rm,hx⟩,sX,sY,te,tf,hP⟩|⟨p,⟨rm,hx⟩,sX,sY,te,tf,xj,xl,hP⟩
  ·have K:=zH rm
   have HX:=zH hx;have HP:=zH hP;have tW:=zH (eQ rm);clear rm hx hP;have th:=λW=>o7 t.kind t.text t.n t.ln t.cl W
   go_upto_region 7 with(first
    |(go_at_call 170;refine(tS.out (0) _ wr wn.out K.out).mono ?_;rintro e w5 ⟨rfl,se⟩;have o:=zH se;clear se)
    |(go_at_call 171;refine(tU.out (0) w5 (K.out.grow o.out)).mono ?_;rintro e f ⟨rfl,rfl⟩)
    |(go_at_call 172;refine(wl.out (0) _ w5 wn.out (K.out.grow o.out)).mono ?_;rw[yk.out];rintro e f ⟨rfl,ti⟩;have sn:=zH (o.out.trans (ti.mono o.out.size));clear ti))
   clear th;have tj:=K.out.grow sn.out;have rn:=(sn.out.block (N+3) (aa HP.out)).trans HP.out;have tE:N+4<=f.heap.size:=aa rn;obtain⟨⟨p0,p1⟩,⟨q0,q1⟩,xo⟩:=bL rn;have ua:=zH tj;have rr:=zH rn;obtain⟨S,hS⟩:=zE ((λw'=>w'.cell? ⟨N+3,0,qu⟩=qt (ra qu 0 0)):World->Prop);have tl:∀w,S w->w.cell? ⟨N+3,0,qu⟩=qt (ra qu 0 0):=λw h=>by rw[<-hS] at h;exact h
   have sq:∀w,w.cell? ⟨N+3,0,qu⟩=qt (ra qu 0 0)->S w:=λw h=>by rw[<-hS];exact h
   have rv:=zH tl;have sr:=zH sq;have AE:S f.drew:=sq _ (by first|exact p0|simpa using p0);clear hS tl sq tj rn;refine ah 7 S (by kernel_rfl) ?_;refine zT 0 rfl rv.out ?_
   try go_simp
   refine zT 1 rfl rv.out ?_
   try go_simp
   refine zT 2 rfl rv.out ?_
   try go_simp
   refine zO 3 rfl λK' d=> ?_;go_simp;go_at_call 173;refine(yb.out f.drew (ua.out.grow ((an _ _).drew))).mono ?_;rintro e w7 ⟨ao,c,fs,ln,cl,rfl,tm,tn,rx⟩;have sx:=rx.2;have rB:=sx.heap rr.out (show¬N+3=N+2 by omega);have tp:S w7:=sr.out _ (rowAt rB 0 rfl).1;have AF:f.heap.size<=w7.heap.size:=rx.2.size;have sy:=aP tn (show N+4<=f.drew.heap.size from tE);refine d _ _ tp ?_;clear d
   try go_simp
   refine zO 4 rfl λK' d=> ?_;go_simp;obtain⟨G,hG⟩:=zE w7.heap.size;obtain⟨W8,rI⟩:=zE (w7.alloc (rj #[qT snm,ra ao fs.length c,Z U ln,Z U cl] 90))
   try rw[hG]
   try rw[rI]
   have D:=iF rI;have tr:W8.heap[G]?=qt (rj #[qT snm,ra ao fs.length c,Z U ln,Z U cl] 90 (0,0)):=by rw[<-rI,<-hG];exact alloc_at _ _
   have sB:=(D.block (N+3) (aa rB)).trans rB;refine d _ _ (sr.out _ (rowAt sB 0 rfl).1) ?_;clear d
   try go_simp
   refine zO 5 rfl λK' d=> ?_;have ub:N+4<=W8.heap.size:=by have:=D.size;omega
   refine aB (.tmp 26) (.tmp 29) 22 rfl (N+4) 90 i0 _ 4 56 underlying22 zp zr zv An rfl (by decide) (ra qu 0 0) 0 [] rfl (World.ownsRow_nil _ _ _ _) (qt ⟨G,0,qu⟩) 1 1 [qT snm,ra ao fs.length c,Z U ln,Z U cl] rfl rfl (λh=>by cases h) (λad uc jj uu hu=>by
    obtain rfl:(⟨G,0,qu⟩:oA)=ad:=by simpa using uc
    rw[cM,cH,bh _ _ _ _ _ _ tr];simpa using hu) (by simp[br]) (by unfold dl;omega) (by omega) ub ?_
   intro v9 w9 rK tt ud;obtain⟨g9,c9,ue,AG,AH⟩:=ed rK;subst ue;have R:Ext (λ_=>jp) W8 w9:=Ext.of_grown tt (λq A=>by cases A);have rL:=R.heap sB (λh=>h);have tv:S w9:=sr.out _ (rowAt rL 0 rfl).1;obtain⟨⟨r0,r1⟩,⟨s0,s1⟩,AI⟩:=bL rL;refine d _ _ tv ?_;clear d
   try go_simp
   refine zT 6 rfl rv.out ?_
   try go_simp
   refine zK rfl λK' d=> ?_;go_simp;refine d _ _ ?_;clear d;refine⟨by kernel_rfl, ?_⟩;obtain⟨J,rN⟩:=zE (w9.setCell ⟨N+3,0,qu⟩ (ra (qt ⟨g9,0,qu⟩) 1 c9))
   try rw[rN]
   have rl:Ext (·=N+3) w9 J:=by rw[<-rN];exact Ext.set1 w9 (N+3) 0 _
   have tz:Ext (·=N+2) f w9:=(((Ext.refl (·=N+2) f).drew.trans sx (λq h=> .inl h)).trans (Ext.of_below_size (M:=λ_=>jp) D) (λq h=>h.elim)).trans R (λq h=>h.elim);have tA:Ext (λq=>q=N+2\/q=N+3) f J:=(tz.mono (λq h=> .inl h)).trans rl (λq h=> .inl (.inr h));have sT:Ext (λq=>q=N+2\/q=N+3) wr J:=(Ext.of_below_size (M:=λq=>q=N+2\/q=N+3) sn.out).trans tA (λq h=> .inl h);have sE:Rd (N+2) lb cap T (k+2) J:=((rx.1.grow D).ext R (λh=>h) (λh=>h)).ext rl (by omega) (by have:=xf.out;omega);have tB:J.heap[N+3]?=qt (rj #[ra (qt ⟨g9,0,qu⟩) 1 c9,ra qu 0 0] 179 (0,0)):=by rw[<-rN];exact aE w9 (N+3) 0 _ _ _ rL
   have tD:CG lb cap T snm l nm y sk k m N W4 J:= .inr (.inl ⟨⟨snm,fs,ao,c,ln,cl,⟨#[]⟩,bq,[],qu,0,0,0,g9,c9,0,0⟩,⟨sE,HX.out.trans sT (λq h=> .inl h)⟩,rfl,tm,
    ae (ae (ownsRow_below sy D) R (λq _ h=>h)) rl (λq A e=>by have:=(ai sy A).1;omega),
    ae rK rl (λq A e=>by have:=(ai rK A).1;omega),tB⟩)
   have AK:k+2<T.length:=by omega
   have ur:=zH (eQ sE);have uv:=zH tD;clear rN rl tz tA sT sE tB tD tt ud rK sy tn tm sx rx rB sB rL R D tr rI hG tp tv r0 r1 s0 s1;go_wp2;go_roundw
   case rel=>exact uv.out
   case measure=>
    rw[ur.out,tW.out];omega
  ·have K:=zH rm
   have HX:=zH hx;have HP:=zH hP;have tW:=zH (eQ rm);have ux:=zH sX;have va:=zH sY;have vc:=zH te;have vd:=zH tf;clear rm hx hP sX sY te tf;have th:=λW=>o7 t2.kind t2.text t2.n t2.ln t2.cl W
   go_upto_region 8 with(first
    |(go_at_call 170;refine(tS.out (k+2) _ wr ws.out K.out).mono ?_;rintro e w5 ⟨rfl,se⟩;have o:=zH se;clear se)
    |(go_at_call 171;refine(tU.out (k+2) w5 (K.out.grow o.out)).mono ?_;rintro e f ⟨rfl,rfl⟩)
    |(go_at_call 172;refine(wl.out (k+2) _ w5 ws.out (K.out.grow o.out)).mono ?_;rw[yp.out];rintro e f ⟨rfl,ti⟩;have sn:=zH (o.out.trans (ti.mono o.out.size));clear ti))
   clear th;have tj:=K.out.grow sn.out;have rn:=(sn.out.block (N+3) (aa HP.out)).trans HP.out;have tE:N+4<=f.heap.size:=aa rn;obtain⟨⟨p0,p1⟩,⟨q0,q1⟩,xo⟩:=bL rn;have ua:=zH tj;have rr:=zH rn;obtain⟨S,hS⟩:=zE ((λw'=>w'.cell? ⟨N+3,1,qu⟩=qt (ra qu 0 0)):World->Prop);have tl:∀w,S w->w.cell? ⟨N+3,1,qu⟩=qt (ra qu 0 0):=λw h=>by rw[<-hS] at h;exact h
   have sq:∀w,w.cell? ⟨N+3,1,qu⟩=qt (ra qu 0 0)->S w:=λw h=>by rw[<-hS];exact h
   have rv:=zH tl;have sr:=zH sq;have AE:S f.drew:=sq _ (by first|exact p1|simpa using p1);clear hS tl sq tj rn;refine ah 7 S (by kernel_rfl) ?_;refine zT 0 rfl rv.out ?_
   try go_simp
   refine zT 1 rfl rv.out ?_
   try go_simp
   refine zT 2 rfl rv.out ?_
   try go_simp
   refine zO 3 rfl λK' d=> ?_;go_simp;go_at_call 174;refine(yd.out f.drew (ua.out.grow ((an _ _).drew))).mono ?_;rintro e w7 ⟨ao,c,ss,ln,cl,rfl,tm,tn,sL,rx⟩;have sx:=rx.2;have rB:=sx.heap rr.out (show¬N+3=N+2 by omega);have tp:S w7:=sr.out _ (rowAt rB 1 rfl).1;have AF:f.heap.size<=w7.heap.size:=rx.2.size;have sy:=aP tn (show N+4<=f.drew.heap.size from tE);have xp:∀s∈ss,s.inn (N+4) w7:=λs hs=>(sL s hs).mono (show N+4<=f.drew.heap.size from tE);refine d _ _ tp ?_;clear d
   try go_simp
   refine zO 4 rfl λK' d=> ?_;go_simp;obtain⟨G,hG⟩:=zE w7.heap.size;obtain⟨W8,rI⟩:=zE (w7.alloc (rj #[qT nm,ra qu 0 0,re y.1,qT y.2,ra ao ss.length c,Z U ln,Z U cl] 233))
   try rw[hG]
   try rw[rI]
   have D:=iF rI;have tr:W8.heap[G]?=qt (rj #[qT nm,ra qu 0 0,re y.1,qT y.2,ra ao ss.length c,Z U ln,Z U cl] 233 (0,0)):=by rw[<-rI,<-hG];exact alloc_at _ _
   have sB:=(D.block (N+3) (aa rB)).trans rB;refine d _ _ (sr.out _ (rowAt sB 1 rfl).1) ?_;clear d
   try go_simp
   refine zO 5 rfl λK' d=> ?_;have ub:N+4<=W8.heap.size:=by have:=D.size;omega
   refine aB (.tmp 33) (.tmp 36) 177 rfl (N+4) 233 j0 _ 7 104 underlying177 As At Ax AD rfl (by decide) (ra qu 0 0) 0 [] rfl (World.ownsRow_nil _ _ _ _) (qt ⟨G,0,qu⟩) 1 1 [qT nm,ra qu 0 0,re y.1,qT y.2,ra ao ss.length c,Z U ln,Z U cl] rfl rfl (λh=>by cases h) (λad uc jj uu hu=>by
    obtain rfl:(⟨G,0,qu⟩:oA)=ad:=by simpa using uc
    rw[cM,cH,bh _ _ _ _ _ _ tr];simpa using hu) (by simp[br]) (by unfold dl;omega) (by omega) ub ?_
   intro v9 w9 rK tt ud;obtain⟨g9,c9,ue,AG,AH⟩:=ed rK;subst ue;have R:Ext (λ_=>jp) W8 w9:=Ext.of_grown tt (λq A=>by cases A);have rL:=R.heap sB (λh=>h);have tv:S w9:=sr.out _ (rowAt rL 1 rfl).1;obtain⟨⟨r0,r1⟩,⟨s0,s1⟩,AI⟩:=bL rL;refine d _ _ tv ?_;clear d
   try go_simp
   refine zT 6 rfl rv.out ?_
   try go_simp
   refine zK rfl λK' d=> ?_;go_simp;refine d _ _ ?_;clear d;refine⟨by kernel_rfl, ?_⟩;obtain⟨J,rN⟩:=zE (w9.setCell ⟨N+3,1,qu⟩ (ra (qt ⟨g9,0,qu⟩) 1 c9))
   try rw[rN]
   have rl:Ext (·=N+3) w9 J:=by rw[<-rN];exact Ext.set1 w9 (N+3) 1 _
   have tz:Ext (·=N+2) f w9:=(((Ext.refl (·=N+2) f).drew.trans sx (λq h=> .inl h)).trans (Ext.of_below_size (M:=λ_=>jp) D) (λq h=>h.elim)).trans R (λq h=>h.elim);have tA:Ext (λq=>q=N+2\/q=N+3) f J:=(tz.mono (λq h=> .inl h)).trans rl (λq h=> .inl (.inr h));have sT:Ext (λq=>q=N+2\/q=N+3) wr J:=(Ext.of_below_size (M:=λq=>q=N+2\/q=N+3) sn.out).trans tA (λq h=> .inl h);have sE:Rd (N+2) lb cap T (m+1) J:=((rx.1.grow D).ext R (λh=>h) (λh=>h)).ext rl (by omega) (by have:=xf.out;omega);have tB:J.heap[N+3]?=qt (rj #[ra (qt ⟨p.pA,0,qu⟩) 1 p.pC,ra (qt ⟨g9,0,qu⟩) 1 c9] 179 (0,0)):=by rw[<-rN];exact aE w9 (N+3) 1 _ _ _ rL
   have sf:∀{e:ge}{size n:cd}{v:bw}{xs:bm bw},wr.ownsRow (N+4) e size v n xs->J.ownsRow (N+4) e size v n xs:=λh=>ae h sT (λq A e=>by have:=(ai h A).1;omega);have tD:CG lb cap T snm l nm y sk k m N W4 J:= .inr (.inr ⟨⟨p.snm,p.fs,p.fA,p.fC,p.sl,p.sc,nm,y,ss,ao,c,ln,cl,p.pA,p.pC,g9,c9⟩,⟨sE,HX.out.trans sT (λq h=> .inl h)⟩,ux.out,va.out,rfl,rfl,tm,
    ⟨sf vc.out,sf vd.out,ae (ae (ownsRow_below sy D) R (λq _ h=>h)) rl (λq A e=>by have:=(ai sy A).1;omega),
     λs hs=>(((xp s hs).ext (Ext.of_below_size (M:=λ_=>jp) D) (λ_ _ _ h=>h)).ext R (λ_ _ _ h=>h)).ext rl (λq h1 _=>by omega),
     ae rK rl (λq A e=>by have:=(ai rK A).1;omega)⟩,tB⟩)
   have AK:k+2<T.length:=by omega
   clear sL xp sf;have ur:=zH (eQ sE);have uv:=zH tD;clear rN rl tz tA sT sE tB tD tt ud rK sy tn tm sx rx rB sB rL R D tr rI hG tp tv r0 r1 s0 s1;go_wp2;go_roundw
   case rel=>exact uv.out
   case measure=>
    rw[ur.out,tW.out];omega
  ·have K:=zH rm
   have HX:=zH hx;have HP:=zH hP;have ux:=zH sX;have va:=zH sY;have vc:=zH te;have vd:=zH tf;have AM:=zH xj;have rr:=zH xl;clear rm hx hP sX sY te tf xj xl;have th:=λW=>o7 5 e2.text e2.n e2.ln e2.cl W;have AN:ca (∀W,aq wr.heap.size wr W->zS 171 #[rb (qt ⟨N+2,0,qu⟩)] W (re qS)):=λW hW=>tU.out (m+1) W (K.out.grow hW)
   go_upto_region 11 with(first
    |(go_at_call 170;refine(tS.out (m+1) _ wr yq.out K.out).mono ?_;rw[yr.out];rintro e w5 ⟨rfl,se⟩;have o:=zH se;clear se)
    |(go_at_call 171;refine(AN.out w5 o.out).mono ?_;rintro e f ⟨rfl,rfl⟩))
   clear th;have vf:=(o.out.block (N+3) (aa HP.out)).trans HP.out;have vh:=HX.out.heap zc.out (show¬(N=N+2\/N=N+3) by omega);have vi:=HX.out.heap zd.out (show¬(N+1=N+2\/N+1=N+3) by omega);have vj:=(o.out.block N (aa vh)).trans vh;have vm:=(o.out.block (N+1) (aa vi)).trans vi;have AS:=zH vj;have AT:=zH vm;unfold Pg.cells at vf;obtain⟨⟨p0,p1⟩,⟨q0,q1⟩,xo⟩:=bL vf;obtain⟨⟨b0,b1⟩,⟨d0,d1⟩,A5⟩:=bL vj;obtain⟨⟨e0,e1,A6,e3⟩,⟨f0,f1,f2,f3⟩,Bk⟩:=kK vm;clear vf vh vi vj vm;go_wp2;(try simp only[cL,Exit.then]);have xr:∀W u0 u1,Ext (·=N) W ((W.setCell ⟨N,0,qu⟩ u0).setCell ⟨N,1,qu⟩ u1):=λW u0 u1=>af (af (Ext.refl _ _) _) _;have xt:∀W u0 u1 u2 u3,Ext (·=N+1) W ((((W.setCell ⟨N+1,0,qu⟩ u0).setCell ⟨N+1,1,qu⟩ u1).setCell ⟨N+1,2,qu⟩ u2).setCell ⟨N+1,3,qu⟩ u3):=λW u0 u1 u2 u3=>af (af (af (af (Ext.refl _ _) _) _) _) _;refine da (bV rfl _ _ N (N+1) 179 113 _ _ (0,0) (0,0) _ _ rfl ((xt _ _ _ _ _).heap (bf AS.out) (show¬N=N+1 by omega)) rfl (gY ((xr _ _ _).heap AT.out (show¬N+1=N by omega))) underlying179 (by kernel_rfl) mL (by kernel_rfl)) rfl ?_;have AW:Ext (λ_=>jp) wr w5:=Ext.of_below_size o.out;have vn:Ext (λq=>q=N\/q=N+1) wr _:=((AW.mono (λ_ h=>h.elim)).trans (xr w5 (ra (qt ⟨p.pA,0,qu⟩) 1 p.pC) (ra (qt ⟨p.qA,0,qu⟩) 1 p.qC)) (λq h=> .inl (.inl h))).trans (xt _ (Z U 0) (Z U 0) (Z U 0) (Z U 0)) (λq h=> .inl (.inr h));have sf:∀{e:ge}{size n:cd}{v:bw}{xs:bm bw},wr.ownsRow (N+4) e size v n xs->_:=λ{e size n v xs} h=>aP (ae (e:=e) (size:=size) (n:=n) (v:=v) (xs:=xs) h vn (λq A e=>by have:=(ai h A).1;omega)) (show w.heap.size<=N+4 by omega);refine⟨p,rfl,ux.out,va.out,vc.out,vd.out,AM.out,⟨sf rr.out.fields,sf rr.out.strs,sf rr.out.stmts,λs hs=>((rr.out.exprs s hs).ext vn (λq h1 _=>by omega)).mono (by omega),sf rr.out.fns⟩, ?_⟩;rw[hN];exact yW.out.trans ((HX.out.below (by rw[wx.out];omega) (λq h=>by omega)).trans (vn.below (cE (by rw[wx.out];omega) HX.out.size) (λq h=>by omega)))
theorem uD {α:Type}{f:α->bm bw}{m:cd}(o:∀x,(f x).length=m):∀(l:bm α)(k j:cd)(x:α)(u:bw),l[k]?=qt x->(f x)[j]?=qt u->(l.flatMap f)[k*m+j]?=qt u
 |[],k,_,_,_,h,_=>by simp at h
 |y::l,0,j,x,u,h,d=>by
  obtain rfl:y=x:=by simpa using h
  rw[dp,Nat.zero_mul,cH,mB (bl.1 d).1];exact d
 |y::l,k+1,j,x,u,h,d=>by
  have ih:=uD o l k j x u (by simpa using h) d;rw[dp,fi (by rw[o];rw[oy];omega),o,show(k+1)*m+j-m=k*m+j by rw[oy];omega];exact ih
theorem sO {α:Type}{f:α->bm bw}{m base n g c:cd}(o:∀x,(f x).length=m){w:World}{e:ge}{l:bm α}(h:w.ownsRow base e m (ra (qt ⟨g,0,qu⟩) n c) n (l.flatMap f)){k j:cd}{x:α}{u:bw}(q:l[k]?=qt x)(v:(f x)[j]?=qt u):
  w.cell? ⟨g,k*m+j,qu⟩=qt u:=by
 have d:=h.cells (g:=g) rfl (k*m+j) u (uD o l k j x u q v);rw[cM,cH] at d;exact d
def Bp (w:World)(Q:bm nP->Prop)(f:aw)(l:bm (aw×Ty))(nm:aw)(y:Ty)(e:Ending)(w':World):Prop:=∃d,Q d/\uB w f l nm y d e w'
theorem uE (s:aw)(R:bm xG)(n0:cd)(Q:bm nP->Prop)(rl nm:aw)(l:bm (aw×Ty))(y:Ty)(w:World)(hs:s.size<=1000000)(tf:lW s)(h0:s.size≠0)(hR:jW s n0 (eP s s.size 0)=qt R)
  (hT:∀T:bm Tok,T.map Tok.sig=R++[(5,⟨#[]⟩,0)]->∃d,Q d/\o8 T rl l nm y d):
  ft ac 92 #[qT s] w (Bp w Q rl l nm y):=by
 obtain⟨N,G⟩:=zE w.heap.size;obtain⟨W2,A⟩:=zE ((w.alloc (rj #[ra qu 0 0,ra qu 0 0] 179)).alloc (rj #[Z U 0,Z U 0,Z U 0,Z U 0] 113));have se:=qQ A G;have sf:W2.heap.size=N+2:=by rw[<-A];simp[G]
 have sk:=vN A G;have sn:=xI A G;have th:=zH (uk s R n0 W2 hs tf h0 hR);have hst:∀(w:World)(c:cG bw),c.size=4->(cU ⟨w.heap.size,0,qu⟩ [Z U 0,Z U 0,Z U 0,Z U 0] 0).run ac (w.alloc (rj c 113))= .ok () (w.alloc (rj #[Z U 0,Z U 0,Z U 0,Z U 0] 113)):=λw c hc=>
  cf (P:=ac) w 113 c #[Z U 0,Z U 0,Z U 0,Z U 0] (by show _=qt 4;kernel_rfl) hc (by simp[br])
 have ti:=zH hst;have HT:=zH hT;have tj:=zH A;have tl:=zH se;have J:=zH sf;have tm:=zH sk;have tn:=zH sn;have tp:ca (∀(lb cap:cd)(T:bm Tok)(d:bm nP)(W:World),uA W lb T->lb<W.heap.size->o8 T rl l nm y d->ft ac 129 #[ra (qt ⟨lb,0,qu⟩) T.length cap] W (uB W rl l nm y d)):=λlb cap T d W K h2 h3=>rD W K h2 h3;clear hR hT A se sf sk sn hst;go_enter func92,ntmps92
 go_upto_region 2 with(go_at_call 128;rw[tj.out];refine th.out.mono ?_;rintro e w3 ⟨v,T,rfl,rm,sq,sr⟩;obtain⟨d,hQ,rB⟩:=HT.out T sq;obtain⟨q,hq⟩:∃q,T.length=q+1:=⟨T.length-1,by obtain⟨_,_,k,j,m,t,_,_,_,_,_,_,_,_,_,_,_,a1,_⟩:=rB;have:=(bl.1 a1).1;omega⟩;obtain⟨lb,cap,hv,tr,sx⟩:=ed (by rw[hq] at rm;exact rm);rw[<-hq] at hv;subst hv;have tt:=zH rm;have tv:=zH rB;have HQ:=zH hQ;have sy:=zH sr;have sB:=zH sx;have tz:=ti.out w3;clear rm sq sr rB hQ hq tr sx)
 clear tz;obtain⟨D,hD⟩:=zE w3.heap.size;obtain⟨o,rn⟩:=zE (w3.alloc (rj #[Z U 0,Z U 0,Z U 0,Z U 0] 113));rw[hD,rn];have rr:=iF rn;have sE:aq W2.heap.size W2 o:=sy.out.trans (rr.mono sy.out.size);have sL:o.heap[D]?=qt (rj #[Z U 0,Z U 0,Z U 0,Z U 0] 113 (0,0)):=by rw[<-rn,<-hD];exact alloc_at _ _
 have sR:uA o lb T:=λk t ht j u hu=>(rr.cell (p:=⟨lb,k*5+j,qu⟩) sB.out).trans (sO (f:=qY) (λ_=>rfl) tt.out ht hu);have sT:lb<o.heap.size:=cn sB.out rr.size;have tA:=zH (tp.out lb cap T d o sR sT tv.out);have rI:=zH sE;obtain⟨⟨c0,c1,c2,c3⟩,_,tE⟩:=kK sL;clear hD rn rr sE sL sR sT
 go_wp2_with (go_at_call 129;refine tA.out.mono ?_;rintro e w5 ⟨p,rfl,K,h2,h3,h4,h5,h6,rK⟩;have HA:=zH (And.intro K (And.intro h2 (And.intro h3 (And.intro h4 h5))));have H6:=zH h6;have tG:=zH rK;have rv:=rI.out.trans (rK.mono rI.out.size);have sX:=zH rv;have rL:=(rv.block N (by rw[J.out];omega)).trans tm.out;have rN:=(rv.block (N+1) (by rw[J.out];omega)).trans tn.out;have tB:=zH rL;have tD:=zH rN;obtain⟨⟨b0,b1⟩,⟨d0,d1⟩,tM⟩:=bL rL;obtain⟨⟨e0,e1,tP,e3⟩,⟨f0,f1,f2,f3⟩,tR⟩:=kK rN;clear K h2 h3 h4 h5 h6 rK rv rL rN;unfold Pg.cells)
 (try simp only[cL,Exit.then]);have sY:∀W u0 u1,Ext (·=N) W ((W.setCell ⟨N,0,qu⟩ u0).setCell ⟨N,1,qu⟩ u1):=λW u0 u1=>af (af (Ext.refl _ _) _) _;have te:∀W u0 u1 u2 u3,Ext (·=N+1) W ((((W.setCell ⟨N+1,0,qu⟩ u0).setCell ⟨N+1,1,qu⟩ u1).setCell ⟨N+1,2,qu⟩ u2).setCell ⟨N+1,3,qu⟩ u3):=λW u0 u1 u2 u3=>af (af (af (af (Ext.refl _ _) _) _) _) _;refine da (bV rfl _ _ N (N+1) 179 113 _ _ (0,0) (0,0) _ _ rfl ((te _ _ _ _ _).heap (bf tB.out) (show¬N=N+1 by omega)) rfl (gY ((sY _ _ _).heap tD.out (show¬N+1=N by omega))) underlying179 (by kernel_rfl) mL (by kernel_rfl)) rfl ?_;have rS:Ext (λq=>q=N\/q=N+1) w5 _:=((sY w5 (ra (qt ⟨p.pA,0,qu⟩) 1 p.pC) (ra (qt ⟨p.qA,0,qu⟩) 1 p.qC)).mono (λq h=> .inl h)).trans (te _ (Z U 0) (Z U 0) (Z U 0) (Z U 0)) (λq h=> .inl (.inr h));have tS:N+2<=o.heap.size:=by rw[<-J.out];exact rI.out.size
 have rx:∀{e:ge}{size n:cd}{v:bw}{xs:bm bw},w5.ownsRow o.heap.size e size v n xs->_:=λ{e size n v xs} h=>aP (ae (e:=e) (size:=size) (n:=n) (v:=v) (xs:=xs) h rS (λq hq e=>by have:=(ai h hq).1;omega)) (show w.heap.size<=o.heap.size by omega);refine⟨d,HQ.out,p,rfl,HA.out.1,HA.out.2.1,HA.out.2.2.1,HA.out.2.2.2.1,HA.out.2.2.2.2,⟨rx H6.out.fields,rx H6.out.strs,rx H6.out.stmts,λs hs=>((H6.out.exprs s hs).ext rS (λq K _=>by omega)).mono (by omega),rx H6.out.fns⟩, ?_⟩;rw[G];exact tl.out.trans ((sX.out.mono (by rw[J.out];omega)).trans (rS.below (cE (by rw[J.out];omega) sX.out.size) (λq h=>by omega)))
structure iG (p:Pg)(L:cd)(w:World):Prop where
 lo:L<=w.heap.size
 pA:p.pA<L
 s:∀j u,p.stc[j]?=qt u->w.cell? ⟨p.pA,j,qu⟩=qt u
 qA:p.qA<L
 f:∀j u,p.fnc[j]?=qt u->w.cell? ⟨p.qA,j,qu⟩=qt u
 fd:aH Fd.cells 5 w L p.fA p.fs
 st:aH Sm.cells 9 w L p.bA p.ss
 ex:∀x∈p.ss,(x.es=[]/\x.E= ra qu 0 0)\/∃g cap,x.E= ra (qt ⟨g,0,qu⟩) x.es.length cap/\g<L/\∀(k:cd)(e:Ex),x.es[k]?=qt e->∀(j:cd)(u:bw),e.cells.toList[j]?=qt u->w.cell? ⟨g,k*7+j,qu⟩=qt u
 lfs:p.fs.length<=1000000
 lss:p.ss.length<=1000000
 cb:p.ss.length<=p.bC
theorem iG.ext {p:Pg}{L:cd}{w w':World}{M:cd->Prop}(h:iG p L w)(K:Ext M w w')(hM:∀k,k<L->¬M k):iG p L w':=by
 have y:∀b o,b<L->w'.cell? ⟨b,o,qu⟩=w.cell? ⟨b,o,qu⟩:=λb o R=>K.cell (a:=⟨b,o,qu⟩) (cn R h.lo) (hM b R);refine⟨cE h.lo K.size,h.pA,λj u d=>by rw[y _ _ h.pA];exact h.s j u d,h.qA,λj u d=>by rw[y _ _ h.qA];exact h.f j u d,λD=> ?_,λD=> ?_,λx rl=> ?_,h.lfs,h.lss,h.cb⟩
 ·obtain⟨b,G,v,q,A⟩:=h.fd D
  exact⟨b,G,v,q,λi x J k u d=>by rw[y _ _ q];exact A i x J k u d⟩
 ·obtain⟨b,G,v,q,A⟩:=h.st D
  exact⟨b,G,v,q,λi x J k u d=>by rw[y _ _ q];exact A i x J k u d⟩
 ·rcases h.ex x rl with v|⟨g,cap,v,q,A⟩
  ·exact .inl v
  ·exact .inr ⟨g,cap,v,q,λk e he j u d=>by rw[y _ _ q];exact A k e he j u d⟩
theorem iG.grow {p:Pg}{L:cd}{w w':World}(h:iG p L w)(d:aq w.heap.size w w'):iG p L w':=h.ext (Ext.of_below_size (M:=λ_=>jp) d) (λ_ _ h=>h)
theorem dI {α:Type}{cells:α->cG bw}{m base n:cd}(v:∀x,(cells x).toList.length=m){w:World}{e:ge}{d:du oA}{c:cd}{l:bm α}(h:w.ownsRow base e m (ra d n c) n (l.flatMap λx=>(cells x).toList))(K:n=l.length):aH cells m w w.heap.size d l:=by
 intro y;obtain⟨q,A⟩:∃q,n=q+1:=⟨n-1,by have:=oY.2 y;omega⟩
 subst A;obtain⟨g,R,o,_,D⟩:=ed h;simp only[fz] at o;obtain⟨rfl,_,rfl⟩:=o;exact⟨g,0,rfl,D,λi x G k u J=>by rw[cH];exact sO (f:=λx=>(cells x).toList) v h G J⟩
theorem uF {w:World}{base n m c:cd}{e:ge}{f:du oA}{xs:bm bw}(h:w.ownsRow base e m (ra f n c) n xs):n<=c:=by
 rcases h.2 with⟨d,o⟩|⟨g,cap,cur,d,_,_,q,_⟩
 ·omega
 ·simp only[fz] at d
  omega
theorem zw {p:Pg}{B:cd}{w:World}(h:p.inn B w)(A:p.fs.length<=1000000)(D:p.ss.length<=1000000):iG p w.heap.size w:=by
 obtain⟨g1,c1,q,_,G⟩:=ed h.strs;obtain⟨g2,c2,v,_,J⟩:=ed h.fns;simp only[fz,dc,eW] at q v;obtain⟨⟨rfl,_⟩,_,rfl⟩:=q;obtain⟨⟨rfl,_⟩,_,rfl⟩:=v;refine⟨bp _,G,λj u d=> ?_,J,λj u d=> ?_,dI (cells:=Fd.cells) (m:=5) (λ_=>rfl) h.fields rfl,dI (cells:=Sm.cells) (m:=9) (λ_=>rfl) h.stmts rfl,λx K=> ?_,A,D,uF h.stmts⟩
 ·have:=h.strs.cells (g:=p.pA) rfl j u d
  rwa [cM,cH] at this
 ·have:=h.fns.cells (g:=p.qA) rfl j u d
  rwa [cM,cH] at this
 ·rcases h.exprs x K with o|⟨g,cap,o,h2,y⟩
  ·exact .inl o
  ·refine .inr ⟨g,cap,o,aa y,λk e R j u d=> ?_⟩
   rw[bh _ _ _ _ _ _ y];have:=uD (f:=EH) (m:=7) (λ_=>rfl) x.es k j e u R d;simpa using this
structure Ck (c:cd)(p:Pg)(L:cd)(f0 f1 f2 f3 f4 f5 f6:bw)(sA:du oA)(sC:cd)(S:bm Fd)(w:World):Prop where
 row:w.heap[c]?=qt (rj #[ra (qt ⟨p.pA,0,qu⟩) 1 p.pC,ra (qt ⟨p.qA,0,qu⟩) 1 p.qC,f0,f1,f2,f3,f4,f5,f6,ra sA S.length sC,Z U 0,Z U 0,Z U 0,Z U 0,Z U 0] 275 (0,0))
 pg:iG p L w
 hc:L<=c
 seen:aH Fd.cells 5 w w.heap.size sA S
 ls:S.length<=1000000
 nc:∀a,S≠[]->sA=qt a->a.block≠c
section
variable {c:cd}{p:Pg}{L:cd}{f0 f1 f2 f3 f4 f5 f6:bw}{sA:du oA}{sC:cd}{S:bm Fd}{w w':World}
theorem Ck.grow (h:Ck c p L f0 f1 f2 f3 f4 f5 f6 sA sC S w)(d:aq w.heap.size w w'):Ck c p L f0 f1 f2 f3 f4 f5 f6 sA sC S w':=
 ⟨(d.block c (aa h.row)).trans h.row,h.pg.grow d,h.hc,aH.grow h.seen d,h.ls,h.nc⟩
end
theorem bZ {c:cd}{p:Pg}{L:cd}{f0 f1 f2 f3 f4 f5 f6:bw}{sA:du oA}{sC:cd}{S:bm Fd}(w:World)(h:Ck c p L f0 f1 f2 f3 f4 f5 f6 sA sC S w):
  zS 178 #[rb (qt ⟨c,0,qu⟩)] w (re qS):=by
 have c1:=(rowAt h.row 11 rfl).1;have d:=aa h.row;clear h;go_enter func178,ntmps178;go_wp2;go_ret;exact⟨rfl,rfl⟩
theorem bG {c:cd}{p:Pg}{L:cd}{f0 f1 f2 f3 f4 f5 f6:bw}{sA:du oA}{sC:cd}{S:bm Fd}(f a b:cj)(w:World)(h:Ck c p L f0 f1 f2 f3 f4 f5 f6 sA sC S w):
  zP 176 #[rb (qt ⟨c,0,qu⟩),re qv,Z U f,rh #[Z U a,Z U b]] w (re qv):=by
 obtain⟨q,d⟩:=zE (w.alloc (rj #[Z U a,Z U b] 40));have o:=iF d;have u:=zH (bZ q (h.grow o));have v:=zH d;have y:=zH o;clear h d o;go_enter func176,ntmps176
 go_wp2_with (go_at_call 178;(try rw[v.out]);refine u.out.mono ?_;rintro e q ⟨rfl,rfl⟩)
 go_ret;exact⟨rfl,y.out⟩
def l5 (p:Pg)(nm:aw):cj:=if p.snm==nm then 0 else-1
def Bq (p:Pg)(nm:aw):cj:=if p.nm==nm then 0 else-1
theorem fD {p:Pg}{L:cd}(nm:aw)(w:World)(h:iG p L w):
  zP 212 #[rh p.cells,qT nm] w (Z U (l5 p nm)):=by
 obtain⟨N,f⟩:=zE w.heap.size;unfold Pg.cells;obtain⟨D,d⟩:=zE (w.alloc (rj #[ra (qt ⟨p.pA,0,qu⟩) 1 p.pC,ra (qt ⟨p.qA,0,qu⟩) 1 p.qC] 179));have o:=gQ d f;have u:D.heap[N]?=qt (rj #[ra (qt ⟨p.pA,0,qu⟩) 1 p.pC,ra (qt ⟨p.qA,0,qu⟩) 1 p.qC] 179 (0,0)):=by rw[<-d,<-f];exact alloc_at _ _
 obtain⟨⟨c0,c1⟩,_,J⟩:=bL u;have v:=h.grow (by rw[f];exact o);have K:=v.s 0 _ rfl;obtain⟨b,q⟩:=zE (p.snm==nm);have R:(p.snm.toList==nm.toList)=b:=by rw[<-eL];exact q
 have y:ca (l5 p nm=if b=qv then 0 else-1):=by unfold ca l5;rw[q]
 rw[y.out];have G:=zH d;have A:=zH o;clear h d o u v q y;go_enter func212,ntmps212;go_wp2;rw[G.out];cases b with
 |true=>
  go_loop [5] (λk=>k= Z U 0) (λ_=>0)
  case atStart=>rfl
  case round=>
   obtain rfl:=hrel;go_wp2;go_ret;exact⟨rfl,A.out⟩
 |false=>
  go_loop [5] (λk=>k= Z U 0\/k= Z U 1) (λk=>1-(intOf k).toNat)
  case atStart=>exact .inl rfl
  case round=>
   rcases hrel with rfl|rfl
   ·go_wp2
    go_round
    case rel=>exact .inr rfl
    case measure=>simp[intOf]
   ·go_wp2
    go_ret;exact⟨rfl,A.out⟩
theorem l6 {p:Pg}{L:cd}(nm:aw)(w:World)(h:iG p L w):
  zP 177 #[rh p.cells,qT nm] w (Z U (Bq p nm)):=by
 obtain⟨N,o⟩:=zE w.heap.size;unfold Pg.cells;obtain⟨G,d⟩:=zE (w.alloc (rj #[ra (qt ⟨p.pA,0,qu⟩) 1 p.pC,ra (qt ⟨p.qA,0,qu⟩) 1 p.qC] 179));have q:=gQ d o;have v:G.heap[N]?=qt (rj #[ra (qt ⟨p.pA,0,qu⟩) 1 p.pC,ra (qt ⟨p.qA,0,qu⟩) 1 p.qC] 179 (0,0)):=by rw[<-d,<-o];exact alloc_at _ _
 obtain⟨⟨c0,c1⟩,_,K⟩:=bL v;have y:=h.grow (by rw[o];exact q);have R:=y.f 0 _ rfl;obtain⟨b,u⟩:=zE (p.nm==nm);have rl:(p.nm.toList==nm.toList)=b:=by rw[<-eL];exact u
 have A:ca (Bq p nm=if b=qv then 0 else-1):=by unfold ca Bq;rw[u]
 rw[A.out];have J:=zH d;have D:=zH q;clear h d q v y u A;go_enter func177,ntmps177;go_wp2;rw[J.out];cases b with
 |true=>
  go_loop [5] (λk=>k= Z U 0) (λ_=>0)
  case atStart=>rfl
  case round=>
   obtain rfl:=hrel;go_wp2;go_ret;exact⟨rfl,D.out⟩
 |false=>
  go_loop [5] (λk=>k= Z U 0\/k= Z U 1) (λk=>1-(intOf k).toNat)
  case atStart=>exact .inl rfl
  case round=>
   rcases hrel with rfl|rfl
   ·go_wp2
    go_round
    case rel=>exact .inr rfl
    case measure=>simp[intOf]
   ·go_wp2
    go_ret;exact⟨rfl,D.out⟩
theorem Br (a b:Bool)(s t:aw)(w:World):(fS 10000 32 (rh #[re a,qT s]) (rh #[re b,qT t])).run ac w= .ok (((a,s):Ty)==(b,t)) w:=by
 have d:ac.underlying 32=qt (.struct (ac.fieldsOf 32)):=by kernel_rfl
 have f:ac.stoodInHeld 32=qS:=by kernel_rfl
 rw[show(10000:cd)=9999+1 from rfl,run_equalIn_agg w 9999 32 _ _ d f];simp only[Program.fieldsOf,dr];have e:(((a,s):Ty)==(b,t))=(a==b&&s.toList==t.toList):=by rw[<-eL];rfl
 rw[e];go_simp
 by_cases h:a=b<;>by_cases o:s.toList=t.toList<;>simp[h,o]
theorem nQ (a:Bool)(s:aw)(w:World):zP 266 #[rh #[re a,qT s],rh #[re a,qT s]] w (re qv):=by
 have h:∀w,(fS 10000 32 (rh #[re a,qT s]) (rh #[re a,qT s])).run ac w= .ok qv w:=λw=>by rw[Br];simp
 have o:ac.eqGuardType ac.depth 32=qS:=by kernel_rfl
 have d:aq w.heap.size w ((w.alloc (rj #[re a,qT s] 32)).alloc (rj #[re a,qT s] 32)):=((an _ _).alloc (bp _) _).alloc (by simp) _;have f:=zH d;clear d;go_enter func266,ntmps266;go_wp2;go_ret;exact⟨rfl,f.out⟩
theorem nR {c:cd}{p:Pg}{L:cd}{f0 f1 f2 f3 f4 f5 f6:bw}{sA:du oA}{sC:cd}{S:bm Fd}(nm:aw)(w:World)(h:Ck c p L f0 f1 f2 f3 f4 f5 f6 sA sC S w)(G:p.snm=nm):
  zP 213 #[rb (qt ⟨c,0,qu⟩),rh #[re qv,qT nm]] w (re qv):=by
 obtain⟨N,f⟩:=zE w.heap.size;obtain⟨d,o⟩:=zE (w.alloc (rj #[re qv,qT nm] 32));have y:=gQ o f;have u:d.heap[N]?=qt (rj #[re qv,qT nm] 32 (0,0)):=by rw[<-o,<-f];exact alloc_at _ _
 have A:=aa u;have v:=h.grow (by rw[f];exact y);have t0:∀q:BW d,q.w.cell? ⟨N,0,qu⟩=qt (re qv):=λq=>(rowAt ((q.h.block N A).trans u) 0 rfl).1;have t1:∀q:BW d,q.w.cell? ⟨N,1,qu⟩=qt (qT nm):=λq=>(rowAt ((q.h.block N A).trans u) 1 rfl).1;have c0:∀q:BW d,q.w.cell? ⟨c,0,qu⟩=qt (ra (qt ⟨p.pA,0,qu⟩) 1 p.pC):=λq=>(rowAt (v.grow q.h).row 0 rfl).1;have c1:∀q:BW d,q.w.cell? ⟨c,1,qu⟩=qt (ra (qt ⟨p.qA,0,qu⟩) 1 p.qC):=λq=>(rowAt (v.grow q.h).row 1 rfl).1;have D:∀q:BW d,zP 212 #[rh p.cells,qT nm] q.w (Z U 0):=λq=>by
  have:=fD nm q.w (v.grow q.h).pg;unfold l5 at this;rw[G,oX] at this;exact this
 unfold Pg.cells at D;have J:=zH D;have K:=zH o;have R:=zH y;clear h G o y u v D;go_enter func213,ntmps213
 go_upto_region 1 with(fail)
 rw[K.out];refine zQ ?_
 repeat (go_big_quiet_step ((go_at_call 212;exact aV (J.out _))))
 refine db ?_;rintro _ ⟨q,rfl⟩;go_wp2;go_ret;exact⟨rfl,by(try rw[f]);exact R.out.trans (q.h.mono (mT A))⟩
theorem vY {c:cd}{p:Pg}{L:cd}{f0 f1 f2 f3 f4 f5 f6:bw}{sA:du oA}{sC:cd}{S:bm Fd}(nm:aw)(w:World)(_:Ck c p L f0 f1 f2 f3 f4 f5 f6 sA sC S w):
  zP 213 #[rb (qt ⟨c,0,qu⟩),rh #[re qS,qT nm]] w (re qv):=by
 obtain⟨N,f⟩:=zE w.heap.size;obtain⟨u,d⟩:=zE (w.alloc (rj #[re qS,qT nm] 32));have v:=gQ d f;have o:u.heap[N]?=qt (rj #[re qS,qT nm] 32 (0,0)):=by rw[<-d,<-f];exact alloc_at _ _
 have y:=aa o;have t0:∀q:BW u,q.w.cell? ⟨N,0,qu⟩=qt (re qS):=λq=>(rowAt ((q.h.block N y).trans o) 0 rfl).1;have A:=zH d;have D:=zH v;clear d v o;go_enter func213,ntmps213
 go_upto_region 1 with(fail)
 rw[A.out];refine zQ ?_
 repeat (go_big_quiet_step (fail))
 refine db ?_;rintro _ ⟨q,rfl⟩;go_wp2;go_ret;exact⟨rfl,by(try rw[f]);exact D.out.trans (q.h.mono (mT y))⟩
def je (S:bm Fd)(nm:aw):du Fd:=S.find? λf=>f.nm==nm
def Bt:du Fd->Ty
 |some f=>f.ty
 |none=>bq
def nu (S:bm Fd)(nm:aw):Ty:=Bt (je S nm)
theorem jw {c:cd}{p:Pg}{L:cd}{f0 f1 f2 f3 f4 f5 f6:bw}{sA:du oA}{sC:cd}{S:bm Fd}(nm:aw)(w:World)(h:Ck c p L f0 f1 f2 f3 f4 f5 f6 sA sC S w):
  zP 214 #[rb (qt ⟨c,0,qu⟩),qT nm] w (.tuple #[rh #[re (nu S nm).1,qT (nu S nm).2],re (je S nm).isSome]):=by
 obtain⟨N,u⟩:=zE w.heap.size;obtain⟨W1,G⟩:=zE (w.alloc (rj #[re qS,qT ⟨#[]⟩] 32));have rl:=gQ G u;have rm:W1.heap[N]?=qt (rj #[re qS,qT ⟨#[]⟩] 32 (0,0)):=by rw[<-G,<-u];exact alloc_at _ _
 have v:=h.grow (by rw[u];exact rl);have c9:W1.cell? ⟨c,9,qu⟩=qt (ra sA S.length sC):=(rowAt v.row 9 rfl).1;have rS:=aa v.row;obtain⟨⟨t0,t1⟩,⟨q0,q1⟩,se⟩:=bL rm;have rI:=zH v.seen;have sf:=v.ls;obtain⟨R,J⟩:=zE (je S nm);obtain⟨Y,hY⟩:=zE (nu S nm);have rv:Bt R=Y:=by rw[<-hY,<-J];rfl
 rw[J,hY];have K:=zH J;have y:=zH rv;have rK:=zH G;have rx:=zH rl;have rB:=zH rm;clear h G rl rm v J hY rv;go_enter func214,ntmps214;go_wp2;rw[rK.out]
 go_loop [6] (λk=>∃j:cd,k= Z U (j:cj)/\j<=S.length/\je (S.drop j) nm=R) (λk=>S.length-(intOf k).toNat)
 case atStart=>exact⟨0,rfl,cJ _,K.out⟩
 case round=>
  obtain⟨j,rfl,hj,f⟩:=hrel
  by_cases q:j<S.length
  ·have sk:(j:cj)<(S.length:cj):=by omega
   obtain⟨x,o⟩:∃x,S[j]?=qt x:=⟨_,am q⟩
   have rn:S.drop j=x::S.drop (j+1):=by
    rw[dT q];have:S[j]=x:=by rw[am q] at o;exact cX o
    rw[this]
   rw[rn] at f;unfold je at f;obtain⟨b,sn,hA,sq,A⟩:=rI.out (by intro e;rw[e] at q;simp at q);have k0:=A j x o 0 _ rfl;have k1:=A j x o 1 _ rfl;have k2:=A j x o 2 _ rfl;rw[kO] at k0;rw[hA] at c9;obtain⟨d,D⟩:=zE (x.nm==nm);have sr:(x.nm.toList==nm.toList)=d:=by rw[<-eL];exact D
   cases d with
   |true=>
    rw[List.find?_cons_of_pos (by exact D)] at f;subst f;have rr:ca (x.ty=Y):=y.out;clear K y o rn A hA D;go_wp2;(try simp only[cL,Exit.then]);refine da (aI rfl _ _ N 32 _ (0,0) _ rfl (bf rB.out) dr (by kernel_rfl)) rfl ?_;rw[<-rr.out];(try rw[u]);exact⟨rfl,(rx.out.setCell (by show N<=N;omega) _).setCell (by show N<=N;omega) _⟩
   |false=>
    rw[List.find?_cons_of_neg (by rw[D];simp)] at f;have HZ:ca (∃j':cd,eC .i64 ((j:cj)+1)= Z U (j':cj)/\j'<=S.length/\je (S.drop j') nm=R):=⟨j+1,by simp,q,f⟩
    clear K y o rn A hA D f;go_wp2
    go_round
    case rel=>exact HZ.out
    case measure=>simp[intOf];omega
  ·have rL:j=S.length:=by omega
   subst rL;rw[n8] at f;unfold je at f;have rN:(qu:du Fd)=R:=f;subst rN;have rr:ca (bq=Y):=y.out;clear K y f;go_wp2;(try simp only[cL,Exit.then]);refine da (aI rfl _ _ N 32 _ (0,0) _ rfl (bf rB.out) dr (by kernel_rfl)) rfl ?_;rw[<-rr.out];(try rw[u]);exact⟨rfl,(rx.out.setCell (by show N<=N;omega) _).setCell (by show N<=N;omega) _⟩
theorem xW {c:cd}{p:Pg}{L:cd}{f0 f1 f2 f3 f4 f5 f6:bw}{sA:du oA}{sC:cd}{S:bm Fd}(n:cj)(nm:aw)(v y:cj)(w:World)(h:Ck c p L f0 f1 f2 f3 f4 f5 f6 sA sC S w):
  zP 265 #[rb (qt ⟨c,0,qu⟩),rh #[Z U 1,Z U n,qT nm,qT ⟨#[]⟩,ra qu 0 0,Z U v,Z U y]] w (rh #[re qS,qT ⟨#[]⟩]):=by
 obtain⟨N,f⟩:=zE w.heap.size;obtain⟨d,q⟩:=zE ((w.alloc (rj #[Z U 1,Z U n,qT nm,qT ⟨#[]⟩,ra qu 0 0,Z U v,Z U y] 313)).alloc (rj #[re qS,qT ⟨#[]⟩] 32));obtain⟨u,o⟩:=zE (d.alloc (rj #[re qS,qT ⟨#[]⟩] 32));have A:=qQ q f;have D:d.heap.size=N+2:=by rw[<-q];simp[f]
 have G:aq N w u:=by rw[<-o];exact A.alloc (by omega) _
 have J:u.heap.size=N+3:=by rw[<-o];simp[D]
 have K:u.heap[N]?=qt (rj #[Z U 1,Z U n,qT nm,qT ⟨#[]⟩,ra qu 0 0,Z U v,Z U y] 313 (0,0)):=by
  rw[<-o];refine(bt _ _ N (by omega)).trans ?_;rw[<-q,<-f];exact fN _ _ _
 have R:u.heap[N+1]?=qt (rj #[re qS,qT ⟨#[]⟩] 32 (0,0)):=by
  rw[<-o];refine(bt _ _ (N+1) (by omega)).trans ?_;rw[<-q,<-f];exact jn _ _ _
 have rl:u.heap[N+2]?=qt (rj #[re qS,qT ⟨#[]⟩] 32 (0,0)):=by rw[<-o,<-D];exact alloc_at _ _
 have h2:=h.grow (by rw[f];exact A);have h3:=h.grow (by rw[f];exact G);have rn:=zH (bZ d h2);have hst:∀(c:cG bw),c.size=2->(cU ⟨d.heap.size,0,qu⟩ [re qS,qT ⟨#[]⟩] 0).run ac (d.alloc (rj c 32))= .ok () (d.alloc (rj #[re qS,qT ⟨#[]⟩] 32)):=λc hc=>
  cf (P:=ac) d 32 c #[re qS,qT ⟨#[]⟩] (by show _=qt 2;kernel_rfl) hc (by simp[br])
 have rr:=zH hst;have rv:=zH q;have rx:=zH o;have rB:=zH G;have rN:=zH J;have rI:=zH K;have rm:=zH R;have rK:=zH rl;clear h q o A G J K R rl h2 h3 hst;go_enter func265,ntmps265
 go_upto_region 3 with(go_at_call 178;rw[rv.out];refine rn.out.mono ?_;rintro e d ⟨rfl,rfl⟩)
 have rL:=rr.out
 go_upto_region 4 with(fail)
 rw[rx.out];(try simp only[D]);clear rL;obtain⟨⟨a0,a1,a2,a3,a4,a5,a6⟩,_,rS⟩:=dC rI.out;obtain⟨⟨b0,b1⟩,⟨d0,d1⟩,se⟩:=bL rm.out;obtain⟨⟨e0,e1⟩,_,sf⟩:=bL rK.out;go_wp2;(try simp only[cL,Exit.then]);refine da (dv (P:=ac) rfl _ _ (N+1) 32 _ (0,0) _ rfl (bf rm.out) dr rfl (by kernel_rfl)) rfl ?_;(try rw[f]);exact⟨rfl,(rB.out.setCell (by show N<=N+1;omega) _).setCell (by show N<=N+1;omega) _⟩
theorem xX {c:cd}{p:Pg}{L:cd}{f0 f1 f2 f3 f4 f5 f6:bw}{sA:du oA}{sC:cd}{S:bm Fd}(n:cj)(nm:aw)(y A:cj)(w:World)(h:Ck c p L f0 f1 f2 f3 f4 f5 f6 sA sC S w){d:Fd}(hl:je S nm=qt d):
  zP 265 #[rb (qt ⟨c,0,qu⟩),rh #[Z U 2,Z U n,qT nm,qT ⟨#[]⟩,ra qu 0 0,Z U y,Z U A]] w (rh #[re d.ty.1,qT d.ty.2]):=by
 obtain⟨N,q⟩:=zE w.heap.size;obtain⟨o,v⟩:=zE ((w.alloc (rj #[Z U 2,Z U n,qT nm,qT ⟨#[]⟩,ra qu 0 0,Z U y,Z U A] 313)).alloc (rj #[re qS,qT ⟨#[]⟩] 32));obtain⟨f,u⟩:=zE (o.alloc (rj #[re qS,qT ⟨#[]⟩] 32));have K:=qQ v q;have R:o.heap.size=N+2:=by rw[<-v];simp[q]
 have rl:aq N w f:=by rw[<-u];exact K.alloc (by omega) _
 have rv:f.heap.size=N+3:=by rw[<-u];simp[R]
 have rx:f.heap[N]?=qt (rj #[Z U 2,Z U n,qT nm,qT ⟨#[]⟩,ra qu 0 0,Z U y,Z U A] 313 (0,0)):=by
  rw[<-u];refine(bt _ _ N (by omega)).trans ?_;rw[<-v,<-q];exact fN _ _ _
 have rB:f.heap[N+1]?=qt (rj #[re qS,qT ⟨#[]⟩] 32 (0,0)):=by
  rw[<-u];refine(bt _ _ (N+1) (by omega)).trans ?_;rw[<-v,<-q];exact jn _ _ _
 have rI:f.heap[N+2]?=qt (rj #[re qS,qT ⟨#[]⟩] 32 (0,0)):=by rw[<-u,<-R];exact alloc_at _ _
 have h2:=h.grow (by rw[q];exact K);have h3:=h.grow (by rw[q];exact rl);have sq:=zH (bZ o h2);have hst:∀(c:cG bw),c.size=2->(cU ⟨o.heap.size,0,qu⟩ [re qS,qT ⟨#[]⟩] 0).run ac (o.alloc (rj c 32))= .ok () (o.alloc (rj #[re qS,qT ⟨#[]⟩] 32)):=λc hc=>
  cf (P:=ac) o 32 c #[re qS,qT ⟨#[]⟩] (by show _=qt 2;kernel_rfl) hc (by simp[br])
 have sr:=zH hst;have sx:=zH v;have sy:=zH u;have sB:=zH rl;have sE:=zH rv;have rK:=zH rx;have rL:=zH rB;have sL:=zH rI;have sR:ca (∀W,aq f.heap.size f W->zP 176 #[rb (qt ⟨c,0,qu⟩),re qv,Z U 5,rh #[Z U y,Z U A]] W (re qv)):=λW hW=>bG 5 y A W (h3.grow hW);have sT:ca (zP 214 #[rb (qt ⟨c,0,qu⟩),qT nm] f (.tuple #[rh #[re d.ty.1,qT d.ty.2],re qv])):=by
  have:=jw nm f h3;unfold nu at this;rw[hl] at this;exact this
 have rN:∀(w:World)(c:cG bw),c.size=2->(cU ⟨w.heap.size,0,qu⟩ [re d.ty.1,qT d.ty.2] 0).run ac (w.alloc (rj c 32))= .ok () (w.alloc (rj #[re d.ty.1,qT d.ty.2] 32)):=λw c hc=>
  cf (P:=ac) w 32 c #[re d.ty.1,qT d.ty.2] (by show _=qt 2;kernel_rfl) hc (by simp[br])
 have sX:=zH rN;clear h v u K rl rv rx rB rI h2 h3 hst hl rN;go_enter func265,ntmps265
 go_upto_region 3 with(go_at_call 178;rw[sx.out];refine sq.out.mono ?_;rintro e o ⟨rfl,rfl⟩)
 have sY:=sr.out
 go_upto_region 4 with(fail)
 rw[sy.out];(try simp only[R]);clear sY;obtain⟨⟨a0,a1,a2,a3,a4,a5,a6⟩,_,te⟩:=dC rK.out;obtain⟨⟨b0,b1⟩,⟨d0,d1⟩,tf⟩:=bL rL.out;obtain⟨⟨e0,e1⟩,_,tt⟩:=bL sL.out
 go_upto_region 7 with(go_at_call 214;refine sT.out.mono ?_;rintro e w4 ⟨rfl,rS⟩;have th:=zH rS;have ti:=sX.out w4;clear rS)
 clear ti;obtain⟨G,hG⟩:=zE w4.heap.size;obtain⟨W5,D⟩:=zE (w4.alloc (rj #[re d.ty.1,qT d.ty.2] 32));rw[hG,D];have J:=zD D th;have rm:W5.heap[G]?=qt (rj #[re d.ty.1,qT d.ty.2] 32 (0,0)):=by rw[<-D,<-hG];exact alloc_at _ _
 have se:=(J.block N te).trans rK.out;have sf:=zH J;have tj:=zH rm;have tl:=zH (sR.out W5 J);obtain⟨⟨x0,x1,x2,x3,x4,x5,x6⟩,_,_⟩:=dC se;have tm:=aa rm;clear hG D J rm se
 go_upto_region 8 with(go_at_call 176;refine tl.out.mono ?_;rintro e w6 ⟨rfl,rn⟩;have sk:=zH (sf.out.trans (rn.mono sf.out.size));have tn:=zH rn;clear rn)
 have sn:=(tn.out.block G tm).trans tj.out;have rr:=(sk.out.block (N+1) tf).trans rL.out;have tp:=zH rr;obtain⟨⟨y0,y1⟩,_,_⟩:=bL sn;obtain⟨⟨b0,b1⟩,⟨d0,d1⟩,tv⟩:=bL rr;have tr:ca (aq N w w6):=sB.out.trans (sk.out.mono (by rw[sE.out];omega));clear sn rr;go_wp2;(try simp only[cL,Exit.then]);refine da (dv (P:=ac) rfl _ _ (N+1) 32 _ (0,0) _ rfl (bf tp.out) dr rfl (by kernel_rfl)) rfl ?_;(try rw[q]);exact⟨rfl,(tr.out.setCell (by show N<=N+1;omega) _).setCell (by show N<=N+1;omega) _⟩
theorem xY {c:cd}{p:Pg}{L:cd}{f0 f1 f2 f3 f4 f5 f6:bw}{sA:du oA}{sC:cd}{S:bm Fd}(n:cj)(nm:aw)(v y:cj)(w:World)(h:Ck c p L f0 f1 f2 f3 f4 f5 f6 sA sC S w)(hk:p.snm=nm):
  zP 265 #[rb (qt ⟨c,0,qu⟩),rh #[Z U 7,Z U n,qT nm,qT ⟨#[]⟩,ra qu 0 0,Z U v,Z U y]] w (rh #[re qv,qT nm]):=by
 obtain⟨N,o⟩:=zE w.heap.size;obtain⟨f,A⟩:=zE ((w.alloc (rj #[Z U 7,Z U n,qT nm,qT ⟨#[]⟩,ra qu 0 0,Z U v,Z U y] 313)).alloc (rj #[re qS,qT ⟨#[]⟩] 32));obtain⟨d,u⟩:=zE (f.alloc (rj #[re qS,qT ⟨#[]⟩] 32));have J:=qQ A o;have K:f.heap.size=N+2:=by rw[<-A];simp[o]
 have R:aq N w d:=by rw[<-u];exact J.alloc (by omega) _
 have rr:d.heap.size=N+3:=by rw[<-u];simp[K]
 have rv:d.heap[N]?=qt (rj #[Z U 7,Z U n,qT nm,qT ⟨#[]⟩,ra qu 0 0,Z U v,Z U y] 313 (0,0)):=by
  rw[<-u];refine(bt _ _ N (by omega)).trans ?_;rw[<-A,<-o];exact fN _ _ _
 have rx:d.heap[N+1]?=qt (rj #[re qS,qT ⟨#[]⟩] 32 (0,0)):=by
  rw[<-u];refine(bt _ _ (N+1) (by omega)).trans ?_;rw[<-A,<-o];exact jn _ _ _
 have rB:d.heap[N+2]?=qt (rj #[re qS,qT ⟨#[]⟩] 32 (0,0)):=by rw[<-u,<-K];exact alloc_at _ _
 have h2:=h.grow (by rw[o];exact J);have D:=h.grow (by rw[o];exact R);have rK:=zH (bZ f h2);have hst:∀(c:cG bw),c.size=2->(cU ⟨f.heap.size,0,qu⟩ [re qS,qT ⟨#[]⟩] 0).run ac (f.alloc (rj c 32))= .ok () (f.alloc (rj #[re qS,qT ⟨#[]⟩] 32)):=λc hc=>
  cf (P:=ac) f 32 c #[re qS,qT ⟨#[]⟩] (by show _=qt 2;kernel_rfl) hc (by simp[br])
 have rL:=zH hst;have rN:=zH A;have rS:=zH u;have se:=zH R;have sf:=zH rr;have G:=zH rv;have rI:=zH rx;have sk:=zH rB;have sn:ca (∀q:BW d,zP 176 #[rb (qt ⟨c,0,qu⟩),re qv,Z U 5,rh #[Z U v,Z U y]] q.w (re qv)):=λq=>bG 5 v y q.w (D.grow q.h);have rl:∀q:BW d,zP 212 #[rh p.cells,qT nm] q.w (Z U 0):=λq=>by
  have:=fD nm q.w (D.grow q.h).pg;unfold l5 at this;rw[hk,oX] at this;exact this
 unfold Pg.cells at rl;have sq:=zH rl;have c0:∀q:BW d,q.w.cell? ⟨c,0,qu⟩=qt (ra (qt ⟨p.pA,0,qu⟩) 1 p.pC):=λq=>(rowAt (D.grow q.h).row 0 rfl).1;have c1:∀q:BW d,q.w.cell? ⟨c,1,qu⟩=qt (ra (qt ⟨p.qA,0,qu⟩) 1 p.qC):=λq=>(rowAt (D.grow q.h).row 1 rfl).1;have C0:=zH c0;have C1:=zH c1;clear h A u J R rr rv rx rB h2 D hst hk rl c0 c1;go_enter func265,ntmps265
 go_upto_region 3 with(go_at_call 178;rw[rN.out];refine rK.out.mono ?_;rintro e f ⟨rfl,rfl⟩)
 have sr:=rL.out
 go_upto_region 4 with(fail)
 rw[rS.out];(try simp only[K]);clear sr;obtain⟨⟨a0,a1,a2,a3,a4,a5,a6⟩,_,rm⟩:=dC G.out;obtain⟨⟨b0,b1⟩,⟨d0,d1⟩,sx⟩:=bL rI.out;obtain⟨⟨e0,e1⟩,_,sE⟩:=bL sk.out
 go_upto_region 26 with(fail)
 clear a0 a1 a2 a3 a4 a5 a6 b0 b1 d0 d1 e0 e1;have c0:=C0.out;have c1:=C1.out;have x2:∀q:BW d,q.w.cell? ⟨N,2,qu⟩=qt (qT nm):=λq=>(rowAt ((q.h.block N rm).trans G.out) 2 rfl).1;have x5:∀q:BW d,q.w.cell? ⟨N,5,qu⟩=qt (Z U v):=λq=>(rowAt ((q.h.block N rm).trans G.out) 5 rfl).1;have x6:∀q:BW d,q.w.cell? ⟨N,6,qu⟩=qt (Z U y):=λq=>(rowAt ((q.h.block N rm).trans G.out) 6 rfl).1;refine zQ ?_
 repeat (go_big_quiet_step (first
  |(go_at_call 212;exact aV (sq.out _))
  |(go_at_call 176;exact aV (sn.out _))))
 refine db ?_;rintro _ ⟨q,rfl⟩;have z2:=x2 q;have rn:=(q.h.block (N+1) sx).trans rI.out;have sy:=zH rn;obtain⟨⟨b0,b1⟩,⟨d0,d1⟩,sL⟩:=bL rn;have sB:ca (aq N w q.w):=se.out.trans (q.h.mono (by rw[sf.out];omega));clear c0 c1 x2 x5 x6 rn;go_wp2;(try simp only[cL,Exit.then]);refine da (dv (P:=ac) rfl _ _ (N+1) 32 _ (0,0) _ rfl (bf sy.out) dr rfl (by kernel_rfl)) rfl ?_;(try rw[o]);exact⟨rfl,(sB.out.setCell (by show N<=N+1;omega) _).setCell (by show N<=N+1;omega) _⟩
def Sm.plainK (s:Sm):Prop:=s.kind=1\/s.kind=3\/s.kind=8\/s.kind=9
def gB (s:Sm):Bool:=s.kind==8
theorem uG (s:Sm)(D:s.plainK)(f:du oA)(n o:cd)(q:s.E= ra f n o)(w:World):
  zP 245 #[rh s.cells] w (re (gB s)):=by
 obtain⟨G,d⟩:=zE (w.alloc (rj #[Z U s.kind,re s.ty.1,qT s.ty.2,qT s.nm,ra f n o,ra qu 0 0,ra qu 0 0,Z U s.ln,Z U s.cl] 282));have u:=iF d;have v:G.heap[w.heap.size]?=qt (rj #[Z U s.kind,re s.ty.1,qT s.ty.2,qT s.nm,ra f n o,ra qu 0 0,ra qu 0 0,Z U s.ln,Z U s.cl] 282 (0,0)):=by rw[<-d];exact alloc_at _ _
 obtain⟨⟨c0,c1,c2,c3,c4,K,R,c7,c8⟩,_,rl⟩:=eH v;unfold Sm.cells;rw[q];have y:=zH d;have J:=zH u;clear d u v q;rcases D with h|h|h|h<;>(
  have A:ca (gB s=(s.kind==8)):=rfl;rw[A.out];rw[h] at c0 y⊢;clear h A;go_enter func245,ntmps245
  go_upto_region 1 with(fail)
  rw[y.out];go_wp2;go_ret;exact⟨rfl,J.out⟩)
theorem kW (b D cap:cd)(l:bm Sm)(hl:l.length<=1000000)(hk:∀s∈l,s.plainK/\∃ao n cp,s.E= ra ao n cp)(w:World)(hb:l≠[]->b<w.heap.size)(hc:∀(i:cd)(x:Sm),l[i]?=qt x->∀(k:cd)(u:bw),x.cells.toList[k]?=qt u->w.cell? ⟨b,D+i*9+k,qu⟩=qt u):
  zP 216 #[ra (qt ⟨b,D,qu⟩) l.length cap] w (re (l.any gB)):=by
 have HK:=zH hk;have HB:=zH hb;have HC:=zH hc;clear hk hb hc;go_enter func216,ntmps216;go_wp2
 go_loopw [3] (λk wr=>∃j:cd,k= Z U (j:cj)/\j<=l.length/\(l.take j).any gB=qS/\aq w.heap.size w wr) (λk _=>l.length-(intOf k).toNat)
 case atStart=>exact⟨0,rfl,cJ _,rfl,an _ _⟩
 case round=>
  obtain⟨j,rfl,hj,f,G⟩:=hrel;have HZ:=zH f;have o:=zH G
  by_cases J:j<l.length
  ·have rL:(j:cj)<(l.length:cj):=by omega
   obtain⟨x,v⟩:∃x,l[j]?=qt x:=⟨_,am J⟩
   have rx:=HB.out (by intro e;rw[e] at J;simp at J);obtain⟨rm,ao,n,cp,K⟩:=HK.out x (ce v);have d:∀(k:cd)(u:bw),x.cells.toList[k]?=qt u->wr.cell? ⟨b,D+j*9+k,qu⟩=qt u:=λk u hu=>(G.cell (p:=⟨b,D+j*9+k,qu⟩) rx).trans (HC.out j x v k u hu);have k0:=d 0 _ rfl;have k1:=d 1 _ rfl;have k2:=d 2 _ rfl;have k3:=d 3 _ rfl;have k4:=d 4 _ rfl;have k5:=d 5 _ rfl;have k6:=d 6 _ rfl;have k7:=d 7 _ rfl;have k8:=d 8 _ rfl;rw[kO] at k0;rw[K] at k4;have y:=uG x rm ao n cp K wr;obtain⟨q,R⟩:=zE (gB x);rw[R] at y;unfold Sm.cells at y;rw[K] at y;have rn:=zH y;have rr:(l.take (j+1)).any gB=q:=by rw[Bd l gB v,f,R];simp
   have rB:=zH rr;have rv:q=qv->l.any gB=qv:=λh=>by rw[ju];exact⟨x,ce v,by rw[R];exact h⟩
   have rI:=zH rv;clear f G v K y R d rr rv rm;cases q with
   |true=>
    go_wp2_with (go_at_call 245;refine rn.out.mono ?_;rintro e w2 ⟨rfl,A⟩;have rl:=zH (o.out.trans (A.mono o.out.size));clear A)
    go_ret;rw[rI.out (by first|rfl|trivial)];exact⟨rfl,rl.out⟩
   |false=>
    go_wp2_with (go_at_call 245;refine rn.out.mono ?_;rintro e w2 ⟨rfl,A⟩;have rl:=zH (o.out.trans (A.mono o.out.size));clear A)
    go_roundw
    case rel=>exact⟨j+1,by go_num,J,rB.out,rl.out⟩
    case measure=>simp[intOf];omega
  ·have rK:j=l.length:=by omega
   subst rK;rw[cT] at f;have HE:ca (l.any gB=qS):=f;clear f G;go_wp2;go_ret;rw[HE.out];exact⟨rfl,o.out⟩
def Bu (p:Pg)(S:bm Fd)(e:Ex)(y:Ty):Prop:=
 (e.kind=1/\y=bq)\/(e.kind=2/\∃d,je S e.nm=qt d/\d.ty=y)\/(e.kind=7/\p.snm=e.nm/\y=(qv,e.nm))
theorem l7 {c:cd}{p:Pg}{L:cd}{f0 f1 f2 f3 f4 f5 f6:bw}{sA:du oA}{sC:cd}{S:bm Fd}{e:Ex}{y:Ty}(w:World)(h:Ck c p L f0 f1 f2 f3 f4 f5 f6 sA sC S w)(o:Bu p S e y):
  ft ac 265 #[rb (qt ⟨c,0,qu⟩),rh e.cells] w λq w'=>q= rk (rh #[re y.1,qT y.2])/\aq w.heap.size w w':=by
 unfold Ex.cells;rcases o with⟨d,rfl⟩|⟨d,u,f,rfl⟩|⟨d,f,rfl⟩
 ·rw[d];exact xW e.n e.nm e.ln e.cl w h
 ·rw[d];exact xX e.n e.nm e.ln e.cl w h f
 ·rw[d];exact xY e.n e.nm e.ln e.cl w h f
def Ad (w:World)(g:cd)(e:Ex):Prop:=g<w.heap.size/\∀(j:cd)(u:bw),e.cells.toList[j]?=qt u->w.cell? ⟨g,j,qu⟩=qt u
theorem Ad.grow {w w':World}{g:cd}{e:Ex}(h:Ad w g e)(d:aq w.heap.size w w'):Ad w' g e:=⟨cn h.1 d.size,λj u f=>by rw[d.cell (p:=⟨g,j,qu⟩) h.1];exact h.2 j u f⟩
theorem vZ {c:cd}{p:Pg}{L:cd}{f0 f1 f4 f5 f6:bw}{y:Ty}{sA:du oA}{sC:cd}{S:bm Fd}{e:Ex}{g v:cd}(tb:Bool)(ts nm:aw)(ln cl:cj)(w:World)(h:Ck c p L f0 f1 (re y.1) (qT y.2) f4 f5 f6 sA sC S w)(hy:Bu p S e y)(hg:Ad w g e):
  ft ac 268 #[rb (qt ⟨c,0,qu⟩),rh #[Z U 8,re tb,qT ts,qT nm,ra (qt ⟨g,0,qu⟩) 1 v,ra qu 0 0,ra qu 0 0,Z U ln,Z U cl]] w λen w'=>en= rk (.tuple #[])/\aq w.heap.size w w':=by
 obtain⟨N,o⟩:=zE w.heap.size;obtain⟨W1,A⟩:=zE (w.alloc (rj #[Z U 8,re tb,qT ts,qT nm,ra (qt ⟨g,0,qu⟩) 1 v,ra qu 0 0,ra qu 0 0,Z U ln,Z U cl] 282));have D:=gQ A o;have G:W1.heap[N]?=qt (rj #[Z U 8,re tb,qT ts,qT nm,ra (qt ⟨g,0,qu⟩) 1 v,ra qu 0 0,ra qu 0 0,Z U ln,Z U cl] 282 (0,0)):=by rw[<-A,<-o];exact alloc_at _ _
 have rr:=aa G;have h1:=h.grow (by rw[o];exact D);have d:=hg.grow (by rw[o];exact D);have rl:=l7 W1 h1 hy;unfold Ex.cells at rl;have rI:=zH rl;have e0:=d.2 0 _ rfl;have e1:=d.2 1 _ rfl;have e2:=d.2 2 _ rfl;have e3:=d.2 3 _ rfl;have e4:=d.2 4 _ rfl;have e5:=d.2 5 _ rfl;have e6:=d.2 6 _ rfl;obtain⟨⟨a0,a1,a2,a3,a4,a5,a6,a7,a8⟩,_,sq⟩:=eH G;have hst:∀(w:World)(c:cG bw),c.size=2->(cU ⟨w.heap.size,0,qu⟩ [re y.1,qT y.2] 0).run ac (w.alloc (rj c 32))= .ok () (w.alloc (rj #[re y.1,qT y.2] 32)):=λw c hc=>
  cf (P:=ac) w 32 c #[re y.1,qT y.2] (by show _=qt 2;kernel_rfl) hc (by simp[br])
 have rK:=zH hst;have H1:=zH h1;have rL:=zH d;have rN:=zH A;have rS:=zH D;have se:=zH G;have sr:=d.1;clear h hy hg A D G h1 d rl hst;go_enter func268,ntmps268
 go_upto_region 1 with(fail)
 rw[rN.out]
 go_upto_region 7 with(go_at_call 265;refine rI.out.mono ?_;rintro en w2 ⟨rfl,rv⟩;have sf:=zH rv;have sk:=rK.out w2;clear rv)
 clear sk;obtain⟨T,hT⟩:=zE w2.heap.size;obtain⟨f,J⟩:=zE (w2.alloc (rj #[re y.1,qT y.2] 32));rw[hT,J];have u:=zD J sf;have K:f.heap[T]?=qt (rj #[re y.1,qT y.2] 32 (0,0)):=by rw[<-J,<-hT];exact alloc_at _ _
 have rx:=aa K;have R:=H1.out.grow u;have rm:=rL.out.grow u;have rn:=(u.block N rr).trans se.out;have t0:∀q:BW f,q.w.cell? ⟨T,0,qu⟩=qt (re y.1):=λq=>(rowAt ((q.h.block T rx).trans K) 0 rfl).1;have t1:∀q:BW f,q.w.cell? ⟨T,1,qu⟩=qt (qT y.2):=λq=>(rowAt ((q.h.block T rx).trans K) 1 rfl).1;have c4:∀q:BW f,q.w.cell? ⟨c,4,qu⟩=qt (re y.1):=λq=>(rowAt (R.grow q.h).row 4 rfl).1;have c5:∀q:BW f,q.w.cell? ⟨c,5,qu⟩=qt (qT y.2):=λq=>(rowAt (R.grow q.h).row 5 rfl).1;have x4:∀q:BW f,q.w.cell? ⟨N,4,qu⟩=qt (ra (qt ⟨g,0,qu⟩) 1 v):=λq=>(rowAt ((q.h.block N (aa rn)).trans rn) 4 rfl).1;have g5:∀q:BW f,q.w.cell? ⟨g,5,qu⟩=qt (Z U e.ln):=λq=>(rm.grow q.h).2 5 _ rfl;have g6:∀q:BW f,q.w.cell? ⟨g,6,qu⟩=qt (Z U e.cl):=λq=>(rm.grow q.h).2 6 _ rfl;have sn:ca (∀q:BW f,zP 176 #[rb (qt ⟨c,0,qu⟩),re qv,Z U 7,rh #[Z U e.ln,Z U e.cl]] q.w (re qv)):=λq=>bG 7 e.ln e.cl q.w (R.grow q.h);have rB:=zH u;clear hT J u K R rm rn a0 a1 a2 a3 a4 a5 a6 a7 a8 e0 e1 e2 e3 e4 e5 e6;refine zQ ?_
 repeat (go_big_quiet_step (first
  |(go_at_call 266;exact aV (nQ _ _ _))
  |(go_at_call 176;exact aV (sn.out _))))
 refine db ?_;rintro _ ⟨q,rfl⟩;clear t0 t1 c4 c5 x4 g5 g6;go_wp2
 go_end0
 exact⟨rfl,by(try rw[o]);exact rS.out.trans ((rB.out.trans (q.h.mono rB.out.size)).mono (mT rr))⟩
theorem uH {c:cd}{p:Pg}{L:cd}{f0 f1 f2 f3 f4 f5 f6:bw}{sA:du oA}{sC:cd}{S:bm Fd}{d:Fd}(K:Bool)(ts nm:aw)(R:du oA)(o ec:cd)(q u:cj)(w:World)(h:Ck c p L f0 f1 f2 f3 f4 f5 f6 sA sC S w)(hl:je S nm=qt d)(hp:d.ty.1=qv):
  ft ac 268 #[rb (qt ⟨c,0,qu⟩),rh #[Z U 9,re K,qT ts,qT nm,ra R o ec,ra qu 0 0,ra qu 0 0,Z U q,Z U u]] w λo w'=>o= rk (.tuple #[])/\aq w.heap.size w w':=by
 obtain⟨N,y⟩:=zE w.heap.size;obtain⟨v,A⟩:=zE (w.alloc (rj #[Z U 9,re K,qT ts,qT nm,ra R o ec,ra qu 0 0,ra qu 0 0,Z U q,Z U u] 282));have rl:=gQ A y;have D:v.heap[N]?=qt (rj #[Z U 9,re K,qT ts,qT nm,ra R o ec,ra qu 0 0,ra qu 0 0,Z U q,Z U u] 282 (0,0)):=by rw[<-A,<-y];exact alloc_at _ _
 have rx:=aa D;have h1:=h.grow (by rw[y];exact rl);obtain⟨⟨a0,a1,a2,a3,a4,a5,a6,a7,a8⟩,_,sX⟩:=eH D;have rS:ca (zP 214 #[rb (qt ⟨c,0,qu⟩),qT nm] v (.tuple #[rh #[re qv,qT d.ty.2],re qv])):=by
  have:=jw nm v h1;unfold nu at this;rw[hl] at this;rw[show Bt (qt d)=d.ty from rfl,hp] at this;exact this
 have rB:ca (∀f W,aq v.heap.size v W->zP 176 #[rb (qt ⟨c,0,qu⟩),re qv,Z U f,rh #[Z U q,Z U u]] W (re qv)):=λf W hW=>bG f q u W (h1.grow hW);have hst:∀(w:World)(c:cG bw),c.size=2->(cU ⟨w.heap.size,0,qu⟩ [re qv,qT d.ty.2] 0).run ac (w.alloc (rj c 32))= .ok () (w.alloc (rj #[re qv,qT d.ty.2] 32)):=λw c hc=>
  cf (P:=ac) w 32 c #[re qv,qT d.ty.2] (by show _=qt 2;kernel_rfl) hc (by simp[br])
 have se:=zH hst;have sf:=zH A;have sk:=zH rl;have sn:=zH D;clear h hl hp A rl D h1 hst;go_enter func268,ntmps268
 go_upto_region 1 with(fail)
 rw[sf.out]
 go_upto_region 10 with(go_at_call 214;refine rS.out.mono ?_;rintro o w2 ⟨rfl,rI⟩;have sq:=zH rI;have sr:=se.out w2;clear rI)
 clear sr;obtain⟨T,hT⟩:=zE w2.heap.size;obtain⟨W3,G⟩:=zE (w2.alloc (rj #[re qv,qT d.ty.2] 32));rw[hT,G];have J:=zD G sq;have rm:W3.heap[T]?=qt (rj #[re qv,qT d.ty.2] 32 (0,0)):=by rw[<-G,<-hT];exact alloc_at _ _
 have sx:=aa rm;have rn:=(J.block N rx).trans sn.out;obtain⟨⟨a0,a1,a2,a3,a4,a5,a6,a7,a8⟩,_,sy⟩:=eH rn;have rK:=zH J;have sB:=zH rm;have sE:=zH rn;have sL:=zH (rB.out 5 W3 J);clear hT G J rm rn
 go_upto_region 11 with(go_at_call 176;refine sL.out.mono ?_;rintro o w4 ⟨rfl,rr⟩;have rv:=zH (rK.out.trans (rr.mono rK.out.size));have rL:=zH rr;clear rr)
 obtain⟨⟨a0,a1,a2,a3,a4,a5,a6,a7,a8⟩,_,sY⟩:=eH ((rL.out.block N sy).trans sE.out);obtain⟨⟨t0,t1⟩,_,te⟩:=bL ((rL.out.block T sx).trans sB.out);have sR:=zH (rB.out 7 w4 rv.out)
 go_wp2_with (go_at_call 176;refine sR.out.mono ?_;rintro o w5 ⟨rfl,rN⟩;have sT:=zH (rv.out.trans (rN.mono rv.out.size));clear rN)
 go_end0
 exact⟨rfl,by(try rw[y]);exact sk.out.trans (sT.out.mono (mT rx))⟩
end Go.Proofs.YtjomgckjhcfbgaaGreat
