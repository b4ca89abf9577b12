/- Walks. -/
import Derived.Test.YtjomgckjhcfbgaaGreatX3
set_option maxRecDepth 100000
set_option maxHeartbeats 64000000
set_option linter.all false
namespace Go.Proofs.YtjomgckjhcfbgaaGreat
open Go.RowKit
open Go.Proofs.Tryz renaming prog→ac,underlying32→dr,underlying88→gi,underlying40→li,underlying113→mL
open _root_.List renaming getElem?_eq_getElem→am,getElem?_eq_some_iff→bl,mem_of_getElem?→ce,length_append→co,flatMap_cons→dp,drop_eq_getElem_cons→dT,nil_append→ej,flatMap_append→el,mem_flatMap→er,length_cons→eI,getElem?_append_right→fi,mem_cons→fW,getElem?_append_left→mB,length_take→m8,length_pos_iff→oY,getElem?_take→py
open Go.RowKit.Below renaming refl→an,heap_alloc→bt
open Go.RowKit renaming Below→aq,Hid→ca
open _root_ renaming ByteArray→aw,List→bm,Nat→cd,Int→cj,if_neg→cw,Array→cG,if_pos→cI,Option→du,congrArg→eA,absurd→fL,False→jp,beq_self_eq_true→oX
open Go renaming heap_setCell_same→aE,cell_of_row→bh,Value→bw,run_storeCells_new→cf,storeCells→cU,bodyPost_ret→da,wpQuiet_nil→db,maxLen→dl,results_cell_row→dv,beq_toListBytes→eL,Calls→ft,heap_alloc2_old→fN,TypeId→ge,heap_alloc2_new→jn,info_parts→ld,Addr→oA
open _root_.Nat renaming le_refl→bp,lt_of_lt_of_le→cn,le_trans→cE,zero_add→cH,zero_le→cJ,add_zero→kO,le_of_lt→mT,succ_mul→oy,eq_zero_or_pos→oR
open Go.Value renaming oneCell'→br,slice→bx,string→qT,slice→ra,pointer→rb,bool→re,agg→rh,int→Z
open Go.Exit renaming inBlock→cL
open Go.Addr renaming add_lit→cM
open _root_.Option.some renaming inj→cX,injEq→dc
open Go.Addr.mk renaming injEq→eW
open _root_.Prod renaming snd→mA
open _root_.Option renaming some→qt,none→qu
open _root_.Bool renaming true→qv,false→qS
open Go.Obj renaming cells→rj
open Go.Ending renaming returned→rk
open Go.IntKind renaming i64→U
open Tryz
theorem l8 {c:cd}{p:Pg}{L:cd}{f0 f1 f2 f3 f4 f5 f6:bw}{sA:du oA}{sC:cd}{S:bm Fd}(f:cj)(rm:f=8\/f=9)(q:Bool)(ts nm:aw)(u:du oA)(d v:cd)(y A:cj)(w:World)(h:Ck c p L f0 f1 f2 f3 f4 f5 f6 sA sC S w)
  (R:∀W,aq w.heap.size w W->ft ac 268 #[rb (qt ⟨c,0,qu⟩),rh #[Z U f,re q,qT ts,qT nm,ra u d v,ra qu 0 0,ra qu 0 0,Z U y,Z U A]] W λd w'=>d= rk (.tuple #[])/\aq W.heap.size W w'):
  ft ac 244 #[rb (qt ⟨c,0,qu⟩),rh #[Z U f,re q,qT ts,qT nm,ra u d v,ra qu 0 0,ra qu 0 0,Z U y,Z U A]] w λd w'=>d= rk (.tuple #[])/\aq w.heap.size w w':=by
 obtain⟨N,o⟩:=zE w.heap.size;obtain⟨D,G⟩:=zE (w.alloc (rj #[Z U f,re q,qT ts,qT nm,ra u d v,ra qu 0 0,ra qu 0 0,Z U y,Z U A] 282));have J:=gQ G o;have K:D.heap[N]?=qt (rj #[Z U f,re q,qT ts,qT nm,ra u d v,ra qu 0 0,ra qu 0 0,Z U y,Z U A] 282 (0,0)):=by rw[<-G,<-o];exact alloc_at _ _
 have rn:=aa K;have h1:=h.grow (by rw[o];exact J);have rr:=zH (bZ D h1);have rv:=zH (R D (by rw[o];exact J));obtain⟨⟨a0,a1,a2,a3,a4,a5,a6,a7,a8⟩,_,rK⟩:=eH K;have rx:=zH G;have rB:=zH J;clear h R G J K h1;rcases rm with rfl|rfl<;>(
  go_enter func244,ntmps244
  go_upto_region 1 with(fail)
  rw[rx.out]
  go_wp2_with (first
   |(go_at_call 178;refine rr.out.mono ?_;rintro e D ⟨rfl,rfl⟩)
   |(go_at_call 268;refine rv.out.mono ?_;rintro e w2 ⟨rfl,rl⟩;have rI:=zH rl;clear rl))
  go_end0
  exact⟨rfl,by(try rw[o]);exact rB.out.trans (rI.out.mono (mT rn))⟩)
theorem o9 {α:Type}{f:α->bm bw}{m:cd}(o:0<m)(d:∀x,(f x).length=m):∀(l:bm α)(j:cd)(u:bw),(l.flatMap f)[j]?=qt u->∃k q x,l[k]?=qt x/\(f x)[q]?=qt u/\j=k*m+q
 |[],j,u,h=>by simp at h
 |y::l,j,u,h=>by
  rw[dp] at h
  by_cases v:j<m
  ·rw[mB (by rw[d];exact v)] at h
   exact⟨0,j,y,rfl,h,by omega⟩
  ·rw[fi (by rw[d];omega),d] at h
   obtain⟨k,q,x,A,D,G⟩:=o9 o d l (j-m) u h;exact⟨k+1,q,x,by simpa using A,D,by rw[oy];omega⟩
theorem kF {α:Type}{f:α->bm bw}{m:cd}(d:∀x,(f x).length=m):∀l:bm α,(l.flatMap f).length=l.length*m
 |[]=>by simp
 |y::l=>by rw[dp,co,d,kF d l,eI,oy,Nat.add_comm]
theorem xZ (S:bm Fd):∀u∈S.flatMap qR,u.oneCell'=qv:=by
 intro u d;obtain⟨f,_,h⟩:=er.1 d
 revert h;unfold qR Fd.cells
 simp;rintro(rfl|rfl|rfl|rfl|rfl)<;>rfl
def Ae (c:cd)(p:Pg)(L:cd)(f0 f1 f2 f3 f4 f5 f6:bw)(S:bm Fd)(w w':World):Prop:=∃sA sC,Ck c p L f0 f1 f2 f3 f4 f5 f6 sA sC S w'/\Ext (·=c) w w'
theorem kG {W:World}{g:cd}{d f h o q v y A D a9 G J K R rl u:bw}{t:ge}(hg:W.heap[g]?=qt (rj #[d,f,h,o,q,v,y,A,D,a9,G,J,K,R,rl] t (0,0))):
  (W.setCell ⟨g,9,qu⟩ u).heap[g]?=qt (rj #[d,f,h,o,q,v,y,A,D,u,G,J,K,R,rl] t (0,0)):=aE _ g 9 _ _ u hg
theorem wh {c:cd}{p:Pg}{L:cd}{f0 f1 f2 f3 f4 f5 f6:bw}{y:Ty}{sA:du oA}{sC:cd}{S:bm Fd}{e:Ex}{g cp:cd}(nm:aw)(ln cl:cj)(w:World)(h:Ck c p L f0 f1 f2 f3 f4 f5 f6 sA sC S w)(hy:Bu p S e y)(vr:y=(qv,p.snm))(vt:je S nm=qu)(AD:S.length<=900000)(hg:Ad w g e):
  ft ac 244 #[rb (qt ⟨c,0,qu⟩),rh #[Z U 1,re y.1,qT y.2,qT nm,ra (qt ⟨g,0,qu⟩) 1 cp,ra qu 0 0,ra qu 0 0,Z U ln,Z U cl]] w λen w'=>en= rk (.tuple #[])/\Ae c p L f0 f1 f2 f3 f4 f5 f6 (S++[⟨nm,y.1,y.2,0,0⟩]) w w':=by
 obtain⟨N,hN⟩:=zE w.heap.size;obtain⟨G,tG⟩:=zE (w.alloc (rj #[Z U 1,re y.1,qT y.2,qT nm,ra (qt ⟨g,0,qu⟩) 1 cp,ra qu 0 0,ra qu 0 0,Z U ln,Z U cl] 282));have tM:=gQ tG hN;have tP:G.heap[N]?=qt (rj #[Z U 1,re y.1,qT y.2,qT nm,ra (qt ⟨g,0,qu⟩) 1 cp,ra qu 0 0,ra qu 0 0,Z U ln,Z U cl] 282 (0,0)):=by rw[<-tG,<-hN];exact alloc_at _ _
 have sf:=aa tP;have h1:=h.grow (by rw[hN];exact tM);have ue:=hg.grow (by rw[hN];exact tM);have AE:=ue.1;have AF:c<N:=by rw[<-hN];exact aa h.row
 have xT:=zH (bZ G h1);have hst:∀(w:World)(c:cG bw),c.size=2->(cU ⟨w.heap.size,0,qu⟩ [re y.1,qT y.2] 0).run ac (w.alloc (rj c 32))= .ok () (w.alloc (rj #[re y.1,qT y.2] 32)):=λw c hc=>
  cf (P:=ac) w 32 c #[re y.1,qT y.2] (by show _=qt 2;kernel_rfl) hc (by simp[br])
 have vu:∀(w:World)(c:cG bw),c.size=2->(cU ⟨w.heap.size,0,qu⟩ [re qS,qT ⟨#[]⟩] 0).run ac (w.alloc (rj c 32))= .ok () (w.alloc (rj #[re qS,qT ⟨#[]⟩] 32)):=λw c hc=>
  cf (P:=ac) w 32 c #[re qS,qT ⟨#[]⟩] (by show _=qt 2;kernel_rfl) hc (by simp[br])
 have ya:=zH hst;have yb:=zH vu;have yd:ca (∀q:BW G,zP 213 #[rb (qt ⟨c,0,qu⟩),rh #[re y.1,qT y.2]] q.w (re qv)):=λq=>by
  rw[vr];exact nR p.snm q.w (h1.grow q.h) rfl
 have ye:ca (∀q:BW G,zP 176 #[rb (qt ⟨c,0,qu⟩),re qv,Z U 5,rh #[Z U ln,Z U cl]] q.w (re qv)):=λq=>bG 5 ln cl q.w (h1.grow q.h);have ur:∀W,aq G.heap.size G W->ft ac 265 #[rb (qt ⟨c,0,qu⟩),rh e.cells] W λen w'=>en= rk (rh #[re y.1,qT y.2])/\aq W.heap.size W w':=λW hW=>l7 W (h1.grow hW) hy;unfold Ex.cells at ur;have yi:=zH ur;have yk:ca (∀W,aq G.heap.size G W->zP 214 #[rb (qt ⟨c,0,qu⟩),qT nm] W (.tuple #[rh #[re qS,qT ⟨#[]⟩],re qS])):=λW hW=>by
  have:=jw nm W (h1.grow hW);unfold nu at this;rw[vt] at this;exact this
 have vx:ca (∀f a b W,aq G.heap.size G W->zP 176 #[rb (qt ⟨c,0,qu⟩),re qv,Z U f,rh #[Z U a,Z U b]] W (re qv)):=λf a b W hW=>bG f a b W (h1.grow hW);obtain⟨⟨a0,a1,a2,a3,a4,a5,a6,a7,a8⟩,_,AG⟩:=eH tP;have H1:=zH h1;have vy:=zH ue;have yp:=zH tG;have uv:=zH tM;have sk:=zH tP;have ux:=h.hc;obtain⟨i0,sX,sY,te,tf⟩:=ld zq;clear h hy vr vt hg tG tM tP h1 ue hst vu ur;go_enter func244,ntmps244
 go_upto_region 1 with(fail)
 rw[yp.out]
 go_upto_region 5 with(go_at_call 178;refine xT.out.mono ?_;rintro e G ⟨rfl,rfl⟩)
 clear a0 a1 a2 a3 a4 a5 a6 a7 a8;have x1:∀q:BW G,q.w.cell? ⟨N,1,qu⟩=qt (re y.1):=λq=>(rowAt ((q.h.block N sf).trans sk.out) 1 rfl).1;have x2:∀q:BW G,q.w.cell? ⟨N,2,qu⟩=qt (qT y.2):=λq=>(rowAt ((q.h.block N sf).trans sk.out) 2 rfl).1;have x7:∀q:BW G,q.w.cell? ⟨N,7,qu⟩=qt (Z U ln):=λq=>(rowAt ((q.h.block N sf).trans sk.out) 7 rfl).1;have x8:∀q:BW G,q.w.cell? ⟨N,8,qu⟩=qt (Z U cl):=λq=>(rowAt ((q.h.block N sf).trans sk.out) 8 rfl).1
 go_cut [3] (λs wc=>s= rb (qt ⟨N,0,qu⟩)/\aq G.heap.size G wc)
 case first=>
  refine zQ ?_
  repeat (go_big_quiet_step (first
   |(go_at_call 213;exact aV (yd.out _))
   |(go_at_call 176;exact aV (ye.out _))))
  refine db ?_;rintro _ ⟨q,rfl⟩;have o:=q.h;go_wp2
  go_meet
  case rel=>exact⟨rfl,o⟩
 case rest=>
  obtain⟨rfl,rl⟩:=hcut;clear x1 x2 x7 x8;have rS:=vy.out.grow rl;have wa:=(rl.block N sf).trans sk.out;obtain⟨⟨a0,a1,a2,a3,a4,a5,a6,a7,a8⟩,_,AH⟩:=eH wa;have e0:=rS.2 0 _ rfl;have e1:=rS.2 1 _ rfl;have e2:=rS.2 2 _ rfl;have e3:=rS.2 3 _ rfl;have e4:=rS.2 4 _ rfl;have e5:=rS.2 5 _ rfl;have e6:=rS.2 6 _ rfl;have AI:=rS.1;have yq:=zH (yi.out wc rl);have wb:=zH rl;clear rS wa rl
  go_upto_region 7 with(go_at_call 265;refine yq.out.mono ?_;rintro en w5 ⟨rfl,we⟩;have yr:=zH (wb.out.trans (we.mono wb.out.size));have yv:=ya.out w5;clear we)
  clear yv;obtain⟨T,hT⟩:=zE w5.heap.size;obtain⟨W6,tR⟩:=zE (w5.alloc (rj #[re y.1,qT y.2] 32));rw[hT,tR];have th:=zD tR yr;have tS:W6.heap[T]?=qt (rj #[re y.1,qT y.2] 32 (0,0)):=by rw[<-tR,<-hT];exact alloc_at _ _
  have wg:=aa tS;have va:=vy.out.grow th;have ti:=(th.block N sf).trans sk.out;have tU:=aa ti;have t0:∀q:BW W6,q.w.cell? ⟨T,0,qu⟩=qt (re y.1):=λq=>(rowAt ((q.h.block T wg).trans tS) 0 rfl).1;have t1:∀q:BW W6,q.w.cell? ⟨T,1,qu⟩=qt (qT y.2):=λq=>(rowAt ((q.h.block T wg).trans tS) 1 rfl).1;have x1:∀q:BW W6,q.w.cell? ⟨N,1,qu⟩=qt (re y.1):=λq=>(rowAt ((q.h.block N tU).trans ti) 1 rfl).1;have x2:∀q:BW W6,q.w.cell? ⟨N,2,qu⟩=qt (qT y.2):=λq=>(rowAt ((q.h.block N tU).trans ti) 2 rfl).1;have x4:∀q:BW W6,q.w.cell? ⟨N,4,qu⟩=qt (ra (qt ⟨g,0,qu⟩) 1 cp):=λq=>(rowAt ((q.h.block N tU).trans ti) 4 rfl).1;have g5:∀q:BW W6,q.w.cell? ⟨g,5,qu⟩=qt (Z U e.ln):=λq=>(va.grow q.h).2 5 _ rfl;have g6:∀q:BW W6,q.w.cell? ⟨g,6,qu⟩=qt (Z U e.cl):=λq=>(va.grow q.h).2 6 _ rfl;have yy:ca (∀q:BW W6,zP 176 #[rb (qt ⟨c,0,qu⟩),re qv,Z U 7,rh #[Z U e.ln,Z U e.cl]] q.w (re qv)):=λq=>vx.out 7 e.ln e.cl q.w (th.trans (q.h.mono th.size));have wi:=zH th;have yW:=zH ti;clear hT tR th tS va ti a0 a1 a2 a3 a4 a5 a6 a7 a8 e0 e1 e2 e3 e4 e5 e6
  go_cut [3] (λs wd=>s= rb (qt ⟨N,0,qu⟩)/\aq W6.heap.size W6 wd)
  case first=>
   refine zQ ?_
   repeat (go_big_quiet_step (first
    |(go_at_call 266;exact aV (nQ _ _ _))
    |(go_at_call 176;exact aV (yy.out _))))
   refine db ?_;rintro _ ⟨q,rfl⟩;have o:=q.h;clear t0 t1 x1 x2 x4 g5 g6;go_wp2
   go_meet
   case rel=>exact⟨rfl,o⟩
  case rest=>
   clear t0 t1 x1 x2 x4 g5 g6;obtain⟨rfl,vc⟩:=hcut;have vd:=wi.out.trans (vc.mono wi.out.size);have vf:=(vc.block N tU).trans yW.out;obtain⟨⟨a0,a1,a2,a3,a4,a5,a6,a7,a8⟩,_,AK⟩:=eH vf;have zc:=zH (yk.out _ vd);have wj:=zH vd;have AM:=zH vf;clear vc vd vf
   go_upto_region 9 with(go_at_call 214;refine zc.out.mono ?_;rintro en w7 ⟨rfl,wk⟩;have zd:=zH (wj.out.trans (wk.mono wj.out.size));have zj:=yb.out w7;clear wk)
   clear zj;obtain⟨W8,vh⟩:=zE (w7.alloc (rj #[re qS,qT ⟨#[]⟩] 32));rw[vh];have tW:=zD vh zd;have wl:=(tW.block N sf).trans sk.out;obtain⟨⟨a0,a1,a2,a3,a4,a5,a6,a7,a8⟩,_,AN⟩:=eH wl;have zp:=zH (vx.out 6 ln cl W8 tW);have wn:=zH tW;clear vh tW wl
   go_upto_region 10 with(go_at_call 176;refine zp.out.mono ?_;rintro en A ⟨rfl,ws⟩;have sn:=zH (wn.out.trans (ws.mono wn.out.size));clear ws)
   have hD:=H1.out.grow sn.out;have vi:=(sn.out.block N sf).trans sk.out;obtain⟨B,hB⟩:=zE A.heap.size;have zr:N<B:=by rw[<-hB];exact aa vi
   have ua:c<B:=by omega
   obtain⟨ST,wx⟩:=zE ((λw'=>aq B A w'):World->Prop);have ub:∀w,ST w↔aq B A w:=λw=>by rw[<-wx]
   have rr:=zH ub;have uc:=zH hD.row;have zv:=zH vi;have xf:=zH hD.seen;have xj:∀w,ST w->w.cell? ⟨c,9,qu⟩=qt (ra sA S.length sC)/\w.cell? ⟨N,3,qu⟩=qt (qT nm)/\w.cell? ⟨N,1,qu⟩=qt (re y.1)/\w.cell? ⟨N,2,qu⟩=qt (qT y.2)/\c<w.heap.size/\w.frozen? ⟨c,9,qu⟩=qS:=λw hw=>by
    have hb:=(ub w).1 hw;have r1:=(hb.block c ua).trans uc.out;have r2:=(hb.block N zr).trans zv.out;exact⟨(rowAt r1 9 rfl).1,(rowAt r2 3 rfl).1,(rowAt r2 1 rfl).1,(rowAt r2 2 rfl).1,aa r1,(rowAt r1 9 rfl).2⟩
   have J:=zH xj;obtain⟨wE,vj⟩:=zE A.drew;have An:ST wE:=(ub _).2 (by rw[<-vj,<-hB];exact(an _ _).drew);have HD:=zH hD;have D:=zH hB;clear wx ub xj hD vi hB a0 a1 a2 a3 a4 a5 a6 a7 a8;have tj:ca (∀w,ST w->(sA=qu->S.length=0)/\∀ad,sA=qt ad->∀j u,(S.flatMap qR)[j]?=qt u->w.cell? (ad.add j)=qt u):=λw hw=>by
    have hb:=(rr.out w).1 hw;constructor
    ·intro vm
     rcases oR S.length with h|h
     ·exact h
     ·obtain⟨b,xl,h1,_⟩:=xf.out (oY.1 h)
      rw[vm] at h1;cases h1
    ·intro ad vm j u hu
     have As:S≠[]:=by intro e;rw[e] at hu;simp at hu
     obtain⟨b,xl,h1,h2,h3⟩:=xf.out As;rw[vm] at h1;obtain rfl:=cX h1;obtain⟨k,q,x,hx,o,rfl⟩:=o9 (f:=qR) (m:=5) (by decide) (λ_=>rfl) S j u hu;rw[cM,hb.cell (p:=⟨b,xl+(k*5+q),qu⟩) (by show b<B;rw[<-D.out];exact h2),<-Nat.add_assoc];exact h3 k x hx q u o
   refine ah 16 ST (by kernel_rfl) ?_;rw[vj];clear vj;refine zT 0 rfl J.out ?_
   try go_simp
   refine zT 2 rfl J.out ?_
   try go_simp
   refine zT 3 rfl J.out ?_
   try go_simp
   refine zT 4 rfl J.out ?_
   try go_simp
   refine zT 5 rfl J.out ?_
   try go_simp
   refine zT 7 rfl J.out ?_
   try go_simp
   refine zT 8 rfl J.out ?_
   try go_simp
   refine zT 9 rfl J.out ?_
   try go_simp
   refine zT 10 rfl J.out ?_
   try go_simp
   refine zT 11 rfl J.out ?_
   try go_simp
   have tl:aq B A wE:=(rr.out _).1 An;refine nN (i:=1) (j:=12) (by kernel_rfl) (by decide) (by decide) rfl rfl (λK' d=> ?_) (λK' d=> ?_)
   ·rw[cI (by rfl)]
    go_simp;obtain⟨Wa,rK⟩:=zE (wE.alloc (rj #[] 92));obtain⟨ba,rv⟩:=zE wE.heap.size;have tm:aq B A Wa:=by rw[<-rK];exact tl.alloc (by have:=tl.size;rw[D.out] at this;exact this) _
    have se:=tm;have sL:ST Wa:=(rr.out _).2 tm;have vn:B<=ba:=by rw[<-rv];have:=tl.size;rw[D.out] at this;exact this
    have vp:ca (Wa.heap.size=ba+1):=by unfold ca;rw[<-rK];simp[rv]
    have ud:Wa.ownsRow B 92 5 (ra (qt ⟨ba,0,qu⟩) 0 0) 0 []:=by rw[<-rK,<-rv];exact iV _ _ _ _ (by rw[rv];exact vn)
    try rw[rK]
    try rw[rv]
    refine d _ _ sL ?_;clear d
    try go_simp
    refine nN (i:=6) (j:=12) (by kernel_rfl) (by decide) (by decide) rfl rfl (λK' d=> ?_) (λK' d=> ?_)
    ·rw[cI (by rfl)]
     refine aB (.tmp 64) (.tmp 68) 88 rfl B 92 i0 _ 5 56 gi sX sY te tf rfl (by decide) (ra (qt ⟨ba,0,qu⟩) 0 0) 0 [] rfl ud sA S.length sC (S.flatMap qR) rfl (kF (f:=qR) (λ_=>rfl) S) (tj.out _ sL).1 (tj.out _ sL).2 (xZ S) (by unfold dl;omega) (by omega) (by have:=se.size;rw[D.out] at this;exact this) ?_;intro vb Wb rL sR xo;have sq:aq B A Wb:=se.trans ((Ext.of_grown (M:=λq=>qt ba=qt q) sR (λq o=> .inl o)).below (by have:=se.size;rw[D.out] at this;exact this) (λq o=>by have:=cX o;omega));have rN:=sq;have tn:ST Wb:=(rr.out _).2 sq;rw[cH,ej] at rL;refine d _ _ tn ?_;clear d
     try go_simp
     refine zO 12 rfl λK' d=> ?_;go_simp;obtain⟨K,rm⟩:=zE (Wb.alloc (rj #[qT nm,re y.1,qT y.2,Z U 0,Z U 0] 92));obtain⟨R,rl⟩:=zE Wb.heap.size;have sr:aq B A K:=by rw[<-rm];exact rN.alloc (by have:=rN.size;rw[D.out] at this;exact this) _
     have rx:=sr;have sT:ST K:=(rr.out _).2 sr;have tp:ca (K.heap.size=R+1):=by unfold ca;rw[<-rm];simp[rl]
     have tr:K.heap[R]?=qt (rj #[qT nm,re y.1,qT y.2,Z U 0,Z U 0] 92 (0,0)):=by rw[<-rm,<-rl];exact alloc_at _ _
     try rw[rm]
     try rw[rl]
     refine d _ _ sT ?_;clear d
     try go_simp
     have xp:K.ownsRow B 92 5 vb S.length (S.flatMap qR):=by rw[<-rm];exact ownsRow_below rL ((an _ _).alloc (bp _) _)
     refine zO 13 rfl λK' d=> ?_;refine aB (.tmp 69) (.tmp 75) 88 rfl B 92 i0 _ 5 56 gi sX sY te tf rfl (by decide) vb S.length (S.flatMap qR) rfl xp (qt ⟨R,0,qu⟩) 1 1 [qT nm,re y.1,qT y.2,Z U 0,Z U 0] rfl rfl (λh=>by cases h) (λad tt jj uu hu=>by
      obtain rfl:(⟨R,0,qu⟩:oA)=ad:=by simpa using tt
      rw[cM,cH,bh _ _ _ _ _ _ tr];simpa using hu) (by simp[br]) (by unfold dl;omega) (by omega) (by have:=rx.size;rw[D.out] at this;exact this) ?_
     intro vz v sx tv xr;obtain⟨gz,cz,tz,xt,xF⟩:=ed sx;subst tz;have rn:aq B A v:=rx.trans ((Ext.of_grown (M:=λq=>vb.ownBlock=qt q) tv (λq o=> .inl o)).below (by have:=rx.size;rw[D.out] at this;exact this) (λq o=>(ai xp o).1));have sy:ST v:=(rr.out _).2 rn;refine d _ _ sy ?_;clear d
     try go_simp
     refine zT 14 rfl J.out ?_
     try go_simp
     refine zT 15 rfl J.out ?_
     try go_simp
     obtain⟨s1,s2,s3,s4,s5,s6⟩:=J.out v sy;refine zK rfl λK' d=> ?_;go_simp;refine d _ _ ?_;clear d;refine⟨by kernel_rfl, ?_⟩;have tA:=(rn.block c ua).trans uc.out;have sB:Ae c p L f0 f1 f2 f3 f4 f5 f6 (S++[⟨nm,y.1,y.2,0,0⟩]) w (v.setCell ⟨c,9,qu⟩ (ra (qt ⟨gz,0,qu⟩) (S.length+1) cz)):=by
      have rB:Ext (·=c) v (v.setCell ⟨c,9,qu⟩ (ra (qt ⟨gz,0,qu⟩) (S.length+1) cz)):=Ext.set1 v c 9 _;have rI:(S++[(⟨nm,y.1,y.2,0,0⟩:Fd)]).length=S.length+1:=by rw[co];rfl
      have tB:=(HD.out.pg.ext (Ext.of_below_size (M:=λ_=>jp) (show aq A.heap.size A v by rw[D.out];exact rn)) (λ_ _ h=>h)).ext rB (λk hk e=>by omega);have sE:v.ownsRow B 92 5 (ra (qt ⟨gz,0,qu⟩) (S.length+1) cz) (S.length+1) ((S++[(⟨nm,y.1,y.2,0,0⟩:Fd)]).flatMap qR):=by rw[el];exact sx
      have tD:=ae sE rB (λq o e=>by have:=(ai sE o).1;omega);refine⟨qt ⟨gz,0,qu⟩,cz,⟨?_,tB,ux, ?_,by rw[rI];omega, ?_⟩, ?_⟩
      ·rw[rI];exact kG tA
      ·exact dI (cells:=Fd.cells) (m:=5) (λ_=>rfl) tD rI.symm
      ·intro a _ ha e
       obtain rfl:=cX ha;have:gz=c:=e;omega
      ·exact((Ext.of_below_size (M:=(·=c)) (show aq w.heap.size w G by rw[hN];exact uv.out)).trans (Ext.of_below_size (M:=(·=c)) (sn.out.trans ((show aq A.heap.size A v by rw[D.out];exact rn).mono sn.out.size))) (λk hk=> .inl hk)).trans rB (λk hk=> .inl hk)
     have tE:=zH sB;clear sB;go_wp2
     go_end0
     exact⟨rfl,tE.out⟩
    ·rw[cI (by rfl)]
     go_simp;obtain⟨K,rm⟩:=zE (Wa.alloc (rj #[qT nm,re y.1,qT y.2,Z U 0,Z U 0] 92));obtain⟨R,rl⟩:=zE Wa.heap.size;have sr:aq B A K:=by rw[<-rm];exact se.alloc (by have:=se.size;rw[D.out] at this;exact this) _
     have rx:=sr;have sT:ST K:=(rr.out _).2 sr;have tp:ca (K.heap.size=R+1):=by unfold ca;rw[<-rm];simp[rl]
     have tr:K.heap[R]?=qt (rj #[qT nm,re y.1,qT y.2,Z U 0,Z U 0] 92 (0,0)):=by rw[<-rm,<-rl];exact alloc_at _ _
     try rw[rm]
     try rw[rl]
     refine d _ _ sT ?_;clear d
     try go_simp
     have At:K.ownsRow B 92 5 (ra (qt ⟨ba,0,qu⟩) 0 0) 0 []:=by rw[<-rm];exact ownsRow_below ud ((an _ _).alloc (bp _) _)
     refine zO 6 rfl λK' d=> ?_;refine aB (.tmp 64) (.tmp 68) 88 rfl B 92 i0 _ 5 56 gi sX sY te tf rfl (by decide) (ra (qt ⟨ba,0,qu⟩) 0 0) 0 [] rfl At sA S.length sC (S.flatMap qR) rfl (kF (f:=qR) (λ_=>rfl) S) (tj.out _ sT).1 (tj.out _ sT).2 (xZ S) (by unfold dl;omega) (by omega) (by have:=rx.size;rw[D.out] at this;exact this) ?_;intro vb Wb rL sR xo;have sq:aq B A Wb:=rx.trans ((Ext.of_grown (M:=λq=>qt ba=qt q) sR (λq o=> .inl o)).below (by have:=rx.size;rw[D.out] at this;exact this) (λq o=>by have:=cX o;omega));have rN:=sq;have tn:ST Wb:=(rr.out _).2 sq;rw[cH,ej] at rL;refine d _ _ tn ?_;clear d
     try go_simp
     have vq:Wb.heap[R]?=qt (rj #[qT nm,re y.1,qT y.2,Z U 0,Z U 0] 92 (0,0)):=(Ext.of_grown (M:=λq=>qt ba=qt q) sR (λq o=> .inl o)).heap tr (by intro h;have:=cX h;have:=vp.out;have:=tp.out;omega);refine zO 13 rfl λK' d=> ?_;refine aB (.tmp 69) (.tmp 75) 88 rfl B 92 i0 _ 5 56 gi sX sY te tf rfl (by decide) vb S.length (S.flatMap qR) rfl rL (qt ⟨R,0,qu⟩) 1 1 [qT nm,re y.1,qT y.2,Z U 0,Z U 0] rfl rfl (λh=>by cases h) (λad tt jj uu hu=>by
      obtain rfl:(⟨R,0,qu⟩:oA)=ad:=by simpa using tt
      rw[cM,cH,bh _ _ _ _ _ _ vq];simpa using hu) (by simp[br]) (by unfold dl;omega) (by omega) (by have:=rN.size;rw[D.out] at this;exact this) ?_
     intro vz v sx tv xr;obtain⟨gz,cz,tz,xt,xF⟩:=ed sx;subst tz;have rn:aq B A v:=rN.trans ((Ext.of_grown (M:=λq=>vb.ownBlock=qt q) tv (λq o=> .inl o)).below (by have:=rN.size;rw[D.out] at this;exact this) (λq o=>(ai rL o).1));have sy:ST v:=(rr.out _).2 rn;refine d _ _ sy ?_;clear d
     try go_simp
     refine zT 14 rfl J.out ?_
     try go_simp
     refine zT 15 rfl J.out ?_
     try go_simp
     obtain⟨s1,s2,s3,s4,s5,s6⟩:=J.out v sy;refine zK rfl λK' d=> ?_;go_simp;refine d _ _ ?_;clear d;refine⟨by kernel_rfl, ?_⟩;have tA:=(rn.block c ua).trans uc.out;have sB:Ae c p L f0 f1 f2 f3 f4 f5 f6 (S++[⟨nm,y.1,y.2,0,0⟩]) w (v.setCell ⟨c,9,qu⟩ (ra (qt ⟨gz,0,qu⟩) (S.length+1) cz)):=by
      have rB:Ext (·=c) v (v.setCell ⟨c,9,qu⟩ (ra (qt ⟨gz,0,qu⟩) (S.length+1) cz)):=Ext.set1 v c 9 _;have rI:(S++[(⟨nm,y.1,y.2,0,0⟩:Fd)]).length=S.length+1:=by rw[co];rfl
      have tB:=(HD.out.pg.ext (Ext.of_below_size (M:=λ_=>jp) (show aq A.heap.size A v by rw[D.out];exact rn)) (λ_ _ h=>h)).ext rB (λk hk e=>by omega);have sE:v.ownsRow B 92 5 (ra (qt ⟨gz,0,qu⟩) (S.length+1) cz) (S.length+1) ((S++[(⟨nm,y.1,y.2,0,0⟩:Fd)]).flatMap qR):=by rw[el];exact sx
      have tD:=ae sE rB (λq o e=>by have:=(ai sE o).1;omega);refine⟨qt ⟨gz,0,qu⟩,cz,⟨?_,tB,ux, ?_,by rw[rI];omega, ?_⟩, ?_⟩
      ·rw[rI];exact kG tA
      ·exact dI (cells:=Fd.cells) (m:=5) (λ_=>rfl) tD rI.symm
      ·intro a _ ha e
       obtain rfl:=cX ha;have:gz=c:=e;omega
      ·exact((Ext.of_below_size (M:=(·=c)) (show aq w.heap.size w G by rw[hN];exact uv.out)).trans (Ext.of_below_size (M:=(·=c)) (sn.out.trans ((show aq A.heap.size A v by rw[D.out];exact rn).mono sn.out.size))) (λk hk=> .inl hk)).trans rB (λk hk=> .inl hk)
     have tE:=zH sB;clear sB;go_wp2
     go_end0
     exact⟨rfl,tE.out⟩
   ·rw[cI (by rfl)]
    go_simp;obtain⟨K,rm⟩:=zE (wE.alloc (rj #[qT nm,re y.1,qT y.2,Z U 0,Z U 0] 92));obtain⟨R,rl⟩:=zE wE.heap.size;have sr:aq B A K:=by rw[<-rm];exact tl.alloc (by have:=tl.size;rw[D.out] at this;exact this) _
    have rx:=sr;have sT:ST K:=(rr.out _).2 sr;have tp:ca (K.heap.size=R+1):=by unfold ca;rw[<-rm];simp[rl]
    have tr:K.heap[R]?=qt (rj #[qT nm,re y.1,qT y.2,Z U 0,Z U 0] 92 (0,0)):=by rw[<-rm,<-rl];exact alloc_at _ _
    try rw[rm]
    try rw[rl]
    refine d _ _ sT ?_;clear d
    try go_simp
    refine zO 1 rfl λK' d=> ?_;go_simp;obtain⟨Wa,rK⟩:=zE (K.alloc (rj #[] 92));obtain⟨ba,rv⟩:=zE K.heap.size;have tm:aq B A Wa:=by rw[<-rK];exact rx.alloc (by have:=rx.size;rw[D.out] at this;exact this) _
    have se:=tm;have sL:ST Wa:=(rr.out _).2 tm;have vn:B<=ba:=by rw[<-rv];have:=rx.size;rw[D.out] at this;exact this
    have vp:ca (Wa.heap.size=ba+1):=by unfold ca;rw[<-rK];simp[rv]
    have ud:Wa.ownsRow B 92 5 (ra (qt ⟨ba,0,qu⟩) 0 0) 0 []:=by rw[<-rK,<-rv];exact iV _ _ _ _ (by rw[rv];exact vn)
    try rw[rK]
    try rw[rv]
    refine d _ _ sL ?_;clear d
    try go_simp
    have Ax:Wa.heap[R]?=qt (rj #[qT nm,re y.1,qT y.2,Z U 0,Z U 0] 92 (0,0)):=by rw[<-rK];exact(bt _ _ R (by have:=tp.out;omega)).trans tr
    refine zO 6 rfl λK' d=> ?_;refine aB (.tmp 64) (.tmp 68) 88 rfl B 92 i0 _ 5 56 gi sX sY te tf rfl (by decide) (ra (qt ⟨ba,0,qu⟩) 0 0) 0 [] rfl ud sA S.length sC (S.flatMap qR) rfl (kF (f:=qR) (λ_=>rfl) S) (tj.out _ sL).1 (tj.out _ sL).2 (xZ S) (by unfold dl;omega) (by omega) (by have:=se.size;rw[D.out] at this;exact this) ?_;intro vb Wb rL sR xo;have sq:aq B A Wb:=se.trans ((Ext.of_grown (M:=λq=>qt ba=qt q) sR (λq o=> .inl o)).below (by have:=se.size;rw[D.out] at this;exact this) (λq o=>by have:=cX o;omega));have rN:=sq;have tn:ST Wb:=(rr.out _).2 sq;rw[cH,ej] at rL;refine d _ _ tn ?_;clear d
    try go_simp
    have vq:Wb.heap[R]?=qt (rj #[qT nm,re y.1,qT y.2,Z U 0,Z U 0] 92 (0,0)):=(Ext.of_grown (M:=λq=>qt ba=qt q) sR (λq o=> .inl o)).heap Ax (by intro h;have:=cX h;have:=vp.out;have:=tp.out;omega);refine zO 13 rfl λK' d=> ?_;refine aB (.tmp 69) (.tmp 75) 88 rfl B 92 i0 _ 5 56 gi sX sY te tf rfl (by decide) vb S.length (S.flatMap qR) rfl rL (qt ⟨R,0,qu⟩) 1 1 [qT nm,re y.1,qT y.2,Z U 0,Z U 0] rfl rfl (λh=>by cases h) (λad tt jj uu hu=>by
     obtain rfl:(⟨R,0,qu⟩:oA)=ad:=by simpa using tt
     rw[cM,cH,bh _ _ _ _ _ _ vq];simpa using hu) (by simp[br]) (by unfold dl;omega) (by omega) (by have:=rN.size;rw[D.out] at this;exact this) ?_
    intro vz v sx tv xr;obtain⟨gz,cz,tz,xt,xF⟩:=ed sx;subst tz;have rn:aq B A v:=rN.trans ((Ext.of_grown (M:=λq=>vb.ownBlock=qt q) tv (λq o=> .inl o)).below (by have:=rN.size;rw[D.out] at this;exact this) (λq o=>(ai rL o).1));have sy:ST v:=(rr.out _).2 rn;refine d _ _ sy ?_;clear d
    try go_simp
    refine zT 14 rfl J.out ?_
    try go_simp
    refine zT 15 rfl J.out ?_
    try go_simp
    obtain⟨s1,s2,s3,s4,s5,s6⟩:=J.out v sy;refine zK rfl λK' d=> ?_;go_simp;refine d _ _ ?_;clear d;refine⟨by kernel_rfl, ?_⟩;have tA:=(rn.block c ua).trans uc.out;have sB:Ae c p L f0 f1 f2 f3 f4 f5 f6 (S++[⟨nm,y.1,y.2,0,0⟩]) w (v.setCell ⟨c,9,qu⟩ (ra (qt ⟨gz,0,qu⟩) (S.length+1) cz)):=by
     have rB:Ext (·=c) v (v.setCell ⟨c,9,qu⟩ (ra (qt ⟨gz,0,qu⟩) (S.length+1) cz)):=Ext.set1 v c 9 _;have rI:(S++[(⟨nm,y.1,y.2,0,0⟩:Fd)]).length=S.length+1:=by rw[co];rfl
     have tB:=(HD.out.pg.ext (Ext.of_below_size (M:=λ_=>jp) (show aq A.heap.size A v by rw[D.out];exact rn)) (λ_ _ h=>h)).ext rB (λk hk e=>by omega);have sE:v.ownsRow B 92 5 (ra (qt ⟨gz,0,qu⟩) (S.length+1) cz) (S.length+1) ((S++[(⟨nm,y.1,y.2,0,0⟩:Fd)]).flatMap qR):=by rw[el];exact sx
     have tD:=ae sE rB (λq o e=>by have:=(ai sE o).1;omega);refine⟨qt ⟨gz,0,qu⟩,cz,⟨?_,tB,ux, ?_,by rw[rI];omega, ?_⟩, ?_⟩
     ·rw[rI];exact kG tA
     ·exact dI (cells:=Fd.cells) (m:=5) (λ_=>rfl) tD rI.symm
     ·intro a _ ha e
      obtain rfl:=cX ha;have:gz=c:=e;omega
     ·exact((Ext.of_below_size (M:=(·=c)) (show aq w.heap.size w G by rw[hN];exact uv.out)).trans (Ext.of_below_size (M:=(·=c)) (sn.out.trans ((show aq A.heap.size A v by rw[D.out];exact rn).mono sn.out.size))) (λk hk=> .inl hk)).trans rB (λk hk=> .inl hk)
    have tE:=zH sB;clear sB;go_wp2
    go_end0
    exact⟨rfl,tE.out⟩
def ny (p:Pg)(y:Ty)(S:bm Fd)(s:Sm)(d:bm Fd):Prop:=
 (s.kind=8/\∃e,s.es=[e]/\Bu p S e y/\d=S)\/(s.kind=9/\∃f,je S s.nm=qt f/\f.ty.1=qv/\d=S)\/
 (s.kind=1/\∃e,s.es=[e]/\Bu p S e s.ty/\s.ty=(qv,p.snm)/\je S s.nm=qu/\d=S++[⟨s.nm,s.ty.1,s.ty.2,0,0⟩])
theorem Ck.mv {c:cd}{p:Pg}{L:cd}{f0 f1 f2 f3 f4 f5 f6:bw}{sA:du oA}{sC:cd}{S:bm Fd}{w w':World}(h:Ck c p L f0 f1 f2 f3 f4 f5 f6 sA sC S w)(d:aq w.heap.size w w'):Ae c p L f0 f1 f2 f3 f4 f5 f6 S w w':=
 ⟨sA,sC,h.grow d,Ext.of_below_size d⟩
theorem iG.sm {p:Pg}{L:cd}{w:World}(h:iG p L w){s:Sm}(v:s∈p.ss):(∃y n o,s.E= ra y n o)/\∀e,s.es=[e]->∃g o,s.E= ra (qt ⟨g,0,qu⟩) 1 o/\Ad w g e:=by
 rcases h.ex s v with⟨d,q⟩|⟨g,cap,d,q,A⟩
 ·exact⟨⟨_,_,_,q⟩,λe f=>by rw[f] at d;cases d⟩
 ·refine⟨⟨_,_,_,d⟩,λe f=>⟨g,cap,by rw[d,f];rfl,cn q h.lo,λj u D=> ?_⟩⟩
  have:=A 0 e (by rw[f];rfl) j u D;simpa using this
theorem uI {c:cd}{p:Pg}{L:cd}{f0 f1 f4 f5 f6:bw}{y:Ty}{sA:du oA}{sC:cd}{S K:bm Fd}{s:Sm}(w:World)(h:Ck c p L f0 f1 (re y.1) (qT y.2) f4 f5 f6 sA sC S w)(hs:s∈p.ss)(hk:ny p y S s K)(rm:S.length<=900000):
  ft ac 244 #[rb (qt ⟨c,0,qu⟩),rh s.cells] w λv w'=>v= rk (.tuple #[])/\Ae c p L f0 f1 (re y.1) (qT y.2) f4 f5 f6 K w w':=by
 obtain⟨⟨R,n,d,hE⟩,rl⟩:=h.pg.sm hs;rcases hk with⟨f,e,o,q,rfl⟩|⟨f,fd,o,q,rfl⟩|⟨f,e,o,q,h4,h5,rfl⟩
 ·obtain⟨g,d,A,D⟩:=rl e o
  unfold Sm.cells;rw[f,A];refine(l8 8 (.inl rfl) s.ty.1 s.ty.2 s.nm (qt ⟨g,0,qu⟩) 1 d s.ln s.cl w h (λW u=>vZ s.ty.1 s.ty.2 s.nm s.ln s.cl W (h.grow u) q (D.grow u))).mono ?_;rintro v w' ⟨G,J⟩;exact⟨G,h.mv J⟩
 ·unfold Sm.cells
  rw[f,hE];refine(l8 9 (.inr rfl) s.ty.1 s.ty.2 s.nm R n d s.ln s.cl w h (λW u=>uH s.ty.1 s.ty.2 s.nm R n d s.ln s.cl W (h.grow u) o q)).mono ?_;rintro v w' ⟨G,J⟩;exact⟨G,h.mv J⟩
 ·obtain⟨g,d,A,D⟩:=rl e o
  unfold Sm.cells;rw[f,A];exact wh s.nm s.ln s.cl w h q h4 h5 rm D
inductive gM (p:Pg) (y:Ty):bm Fd->bm Sm->Prop
 |nil (S:bm Fd):gM p y S []
 |cons (S S1:bm Fd) (s:Sm) (l:bm Sm):ny p y S s S1->gM p y S1 l->gM p y S (s::l)
theorem ny.kind {p:Pg}{y:Ty}{S d:bm Fd}{s:Sm}(h:ny p y S s d):s.plainK:=by
 rcases h with h|h|h
 ·exact .inr (.inr (.inl h.1))
 ·exact .inr (.inr (.inr h.1))
 ·exact .inl h.1
theorem gM.kinds {p:Pg}{y:Ty}{S:bm Fd}{l:bm Sm}(h:gM p y S l):∀s∈l,s.plainK:=by
 induction h with
 |nil=>simp
 |cons S o s l f _ ih=>intro x d;rcases fW.1 d with rfl|d;exact f.kind;exact ih x d
theorem ny.len {p:Pg}{y:Ty}{S d:bm Fd}{s:Sm}(h:ny p y S s d):d.length<=S.length+1:=by
 rcases h with⟨_,_,_,_,rfl⟩|⟨_,_,_,_,rfl⟩|⟨_,_,_,_,_,_,rfl⟩
 ·omega
 ·omega
 ·rw[co];simp
def Ez (c:cd)(p:Pg)(L:cd)(f0 f1 f4 f5 f6:bw)(y:Ty)(w:World)(k:bw)(wr:World):Prop:=
 ∃(j:cd) (S:bm Fd) (sA:du oA) (sC:cd),k= Z U (j:cj)/\j<=p.ss.length/\S.length<=j/\gM p y S (p.ss.drop j)/\Ck c p L f0 f1 (re y.1) (qT y.2) f4 f5 f6 sA sC S wr/\Ext (·=c) w wr
theorem rF {c:cd}{p:Pg}{L:cd}{f0 f1 f4 f5 f6:bw}{y:Ty}(w:World)(h:Ck c p L f0 f1 (re y.1) (qT y.2) f4 f5 f6 qu 0 [] w)(hk:gM p y [] p.ss)(tj:p.ss.length<=1000)(rB:∀j,j<p.ss.length->(p.ss.take j).any gB=qS)(rI:p.ss≠[]):
  ft ac 215 #[rb (qt ⟨c,0,qu⟩),ra p.bA p.ss.length p.bC] w λen w'=>en= rk (.tuple #[])/\Ck c p L f0 f1 (re y.1) (qT y.2) f4 f5 f6 qu 0 [] w'/\Ext (·=c) w w':=by
 obtain⟨b,J,hA,tl,_⟩:=h.pg.st rI;have sq:=h.hc;have sr:=aa h.row;have c9:w.cell? ⟨c,9,qu⟩=qt (ra qu 0 0):=(rowAt h.row 9 rfl).1;have H:=zH h;have HA:=zH hA;have sx:=zH rB;have HK:=zH hk;have tm:c<w.heap.size:=sr;rw[hA];have sy:ca (∀sA sC S W,Ck c p L f0 f1 (re y.1) (qT y.2) f4 f5 f6 sA sC S W->zS 178 #[rb (qt ⟨c,0,qu⟩)] W (re qS)):=λsA sC S W hW=>bZ W hW;have sB:ca (∀s∈p.ss,s.plainK):=hk.kinds;clear h hA hk rB rI;go_enter func215,ntmps215
 go_upto_region 2 with(fail)
 clear c9
 go_loopw [5] (λk wr=>Ez c p L f0 f1 f4 f5 f6 y w k wr) (λk _=>p.ss.length-(intOf k).toNat)
 case atStart=>exact⟨0,[],qu,0,rfl,cJ _,bp _,HK.out,H.out,Ext.refl _ _⟩
 case round=>
  obtain⟨j,S,sA,sC,rfl,hj,tn,rm,A,f⟩:=hrel;have rn:=zH A;have HX:=zH f;have sE:=zH (sy.out sA sC S wr A)
  by_cases D:j<p.ss.length
  ·have tp:(j:cj)<(p.ss.length:cj):=by omega
   obtain⟨s,K⟩:∃s,p.ss[j]?=qt s:=⟨_,am D⟩
   have rK:p.ss.drop j=s::p.ss.drop (j+1):=by
    rw[dT D];have:p.ss[j]=s:=by rw[am D] at K;exact cX K
    rw[this]
   rw[rK] at rm;cases rm with
   |cons _ S1 _ _ hst rL=>
    have rr:=ce K;obtain⟨⟨ao,n,cp,G⟩,_⟩:=A.pg.sm rr;have R:∀W,aq wr.heap.size wr W->(∀(i:cd)(x:Sm),p.ss[i]?=qt x->∀(k:cd)(u:bw),x.cells.toList[k]?=qt u->W.cell? ⟨b,J+i*9+k,qu⟩=qt u)/\b<W.heap.size:=λW hW=>by
     have rN:=(A.grow hW).pg;obtain⟨b',tr,h1,h2,h3⟩:=rN.st (by intro e;rw[e] at D;simp at D);rw[HA.out] at h1;simp only[dc,eW,and_true] at h1;rw[<-h1.1] at h2 h3;rw[<-h1.2] at h3;exact⟨h3,cn h2 rN.lo⟩
    have rv:(p.ss.take j).length=j:=by rw[m8];omega
    have sL:ca (∀q:BW wr,zP 216 #[ra (qt ⟨b,J,qu⟩) j p.bC] q.w (re qS)):=λq=>by
     have:=kW b J p.bC (p.ss.take j) (by rw[rv];omega) (λx f=>⟨sB.out x (List.mem_of_mem_take f),(A.pg.sm (List.mem_of_mem_take f)).1⟩) q.w (λ_=>(R q.w q.h).2) (λi x f k u hu=>(R q.w q.h).1 i x (by
      have h1:=bl.1 f;rw[py] at f
      split at f
      ·exact f
      ·cases f) k u hu)
     rw[rv,sx.out j D] at this;exact this
    have sR:ca (∀q:BW wr,zP 176 #[rb (qt ⟨c,0,qu⟩),re qv,Z U 3,rh #[Z U s.ln,Z U s.cl]] q.w (re qv)):=λq=>bG 3 s.ln s.cl q.w (A.grow q.h);have o:=zH R;have v:=zH K;have rS:=zH hst;have sT:=zH rL;have sX:=zH rr;have HE:=zH G;have tt:b<wr.heap.size:=(R wr (an _ _)).2;have tv:j<=p.bC:=by have:=A.pg.cb;omega
    have tz:(j:cj)<=(p.bC:cj):=by omega
    clear A f K rK hst rL rr G R rv
    go_upto_region 4 with(go_at_call 178;refine sE.out.mono ?_;rintro e wr ⟨rfl,rfl⟩)
    have s7:∀q:BW wr,q.w.cell? ⟨b,J+j*9+7,qu⟩=qt (Z U s.ln):=λq=>(o.out q.w q.h).1 j s v.out 7 _ rfl;have s8:∀q:BW wr,q.w.cell? ⟨b,J+j*9+8,qu⟩=qt (Z U s.cl):=λq=>(o.out q.w q.h).1 j s v.out 8 _ rfl
    go_cut [5] (λs wc=>s= Z U (j:cj)/\aq wr.heap.size wr wc)
    case first=>
     refine zQ ?_
     repeat (go_big_quiet_step (first
      |(go_at_call 216;exact aV (sL.out _))
      |(go_at_call 176;exact aV (sR.out _))))
     refine db ?_;rintro _ ⟨q,rfl⟩;have hq:=q.h;clear s7 s8;go_wp2
     go_meet
     case rel=>exact⟨rfl,hq⟩
    case rest=>
     obtain⟨rfl,d⟩:=hcut;clear s7 s8;have se:=rn.out.grow d;have rx:=zH (uI wc se sX.out rS.out (by omega));have k0:=(o.out wc d).1 j s v.out 0 _ rfl;have k1:=(o.out wc d).1 j s v.out 1 _ rfl;have k2:=(o.out wc d).1 j s v.out 2 _ rfl;have k3:=(o.out wc d).1 j s v.out 3 _ rfl;have k4:=(o.out wc d).1 j s v.out 4 _ rfl;have k5:=(o.out wc d).1 j s v.out 5 _ rfl;have k6:=(o.out wc d).1 j s v.out 6 _ rfl;have k7:=(o.out wc d).1 j s v.out 7 _ rfl;have k8:=(o.out wc d).1 j s v.out 8 _ rfl;rw[kO] at k0;have G:=HE.out;rw[G] at k4;unfold Sm.cells at rx;rw[G] at rx;have tA:b<wc.heap.size:=(o.out wc d).2;have sY:=zH d;clear se d G
     go_wp2_with (go_at_call 244;refine rx.out.mono ?_;rintro en w5 ⟨rfl,te,tf,sf,sk⟩;have th:=zH sf;have ti:=zH sk;clear sf sk)
     go_roundw
     case rel=>
      have tB:=rS.out.len;exact⟨j+1,S1,te,tf,by go_num,D,by omega,sT.out,th.out,(HX.out.trans (Ext.of_below_size (M:=λ_=>jp) sY.out) (λq h=>h.elim)).trans ti.out (λq h=> .inl h)⟩
     case measure=>simp[intOf];omega
  ·have tD:j=p.ss.length:=by omega
   have rl:=A.row;have tE:=aa rl;have f9:wr.frozen? ⟨c,9,qu⟩=qS:=(rowAt rl 9 rfl).2;have c9:wr.cell? ⟨c,9,qu⟩=qt (ra sA S.length sC):=(rowAt rl 9 rfl).1;clear A f rm rl;go_wp2
   go_end0
   have sn:Ext (·=c) wr (wr.setCell ⟨c,9,qu⟩ (ra qu 0 0)):=Ext.set1 wr c 9 _;exact⟨rfl,⟨kG rn.out.row,rn.out.pg.ext sn (λk hk e=>by omega),sq,λh=>fL rfl h,by simp,λa h=>fL rfl h⟩,HX.out.trans sn (λq h=> .inl h)⟩
theorem yc (q:du oA)(u:cd)(w:World):zP 211 #[ra q 1 u] w (rh #[Z U 0,Z U 0]):=by
 obtain⟨N,f⟩:=zE w.heap.size;obtain⟨v,d⟩:=zE (w.alloc (rj #[Z U 0,Z U 0] 40));have o:=gQ d f;have h:v.heap[N]?=qt (rj #[Z U 0,Z U 0] 40 (0,0)):=by rw[<-d,<-f];exact alloc_at _ _
 obtain⟨⟨c0,c1⟩,⟨f0,f1⟩,G⟩:=bL h;have y:=zH d;have A:=zH o;have D:=zH h;clear d o h;go_enter func211,ntmps211
 go_upto_region 1 with(fail)
 rw[y.out];go_wp2;(try simp only[cL,Exit.then]);refine da (dv (P:=ac) rfl _ _ N 40 _ (0,0) _ rfl (bf D.out) li rfl (by kernel_rfl)) rfl ?_;(try rw[f]);exact⟨rfl,(A.out.setCell (by show N<=N;omega) _).setCell (by show N<=N;omega) _⟩
theorem oq {c:cd}{p:Pg}{L:cd}{f0 f1 f2 f3 f4 f5 f6:bw}{sA:du oA}{sC:cd}{S:bm Fd}{fd:Fd}(w:World)(h:Ck c p L f0 f1 f2 f3 f4 f5 f6 sA sC S w)(K:p.fs=[fd])(rr:fd.ty=(qv,p.snm)):
  ft ac 175 #[rb (qt ⟨c,0,qu⟩)] w λen w'=>en= rk (.tuple #[])/\aq w.heap.size w w':=by
 have rL:p.pA<w.heap.size:=cn h.pg.pA h.pg.lo;have c0:w.cell? ⟨c,0,qu⟩=qt (ra (qt ⟨p.pA,0,qu⟩) 1 p.pC):=(rowAt h.row 0 rfl).1;have sT:=aa h.row;obtain⟨y,A,rN,rS,se⟩:=h.pg.fd (by rw[K];simp);have sf:y<w.heap.size:=cn rS h.pg.lo;have sk:p.fs.length=1:=by rw[K];rfl
 have sn:∀W,aq w.heap.size w W->(W.cell? ⟨y,A,qu⟩=qt (qT fd.nm)/\W.cell? ⟨y,A+1,qu⟩=qt (re qv)/\W.cell? ⟨y,A+2,qu⟩=qt (qT p.snm)/\W.cell? ⟨y,A+3,qu⟩=qt (Z U fd.ln)/\W.cell? ⟨y,A+4,qu⟩=qt (Z U fd.cl)):=λW v=>by
  have o:∀k u,fd.cells.toList[k]?=qt u->W.cell? ⟨y,A+k,qu⟩=qt u:=λk u hu=>by
   rw[v.cell (p:=⟨y,A+k,qu⟩) sf];have:=se 0 fd (by rw[K];rfl) k u hu;simpa using this
  have e1:fd.ptr=qv:=eA Prod.fst rr;have e2:fd.tgt=p.snm:=eA mA rr;refine⟨o 0 _ rfl, ?_, ?_,o 3 _ rfl,o 4 _ rfl⟩
  ·rw[<-e1];exact o 1 _ rfl
  ·rw[<-e2];exact o 2 _ rfl
 have sq:∀W,aq w.heap.size w W->(W.cell? ⟨p.pA,0,qu⟩=qt (qT p.snm)/\W.cell? ⟨p.pA,1,qu⟩=qt (ra (qt ⟨y,A,qu⟩) 1 p.fC)/\W.cell? ⟨p.pA,2,qu⟩=qt (Z U p.sl)/\W.cell? ⟨p.pA,3,qu⟩=qt (Z U p.sc)):=λW v=>by
  have o:=(h.pg.grow v).s;refine⟨o 0 _ rfl, ?_,o 2 _ rfl,o 3 _ rfl⟩;have sr:=o 1 _ rfl;rw[rN,sk] at sr;exact sr
 have HF:=zH sn;have R:=zH sq;have H:=zH h;have rv:ca (∀(f a b:cj) W,aq w.heap.size w W->zP 176 #[rb (qt ⟨c,0,qu⟩),re qv,Z U f,rh #[Z U a,Z U b]] W (re qv)):=λf a b W v=>bG f a b W (h.grow v);have sX:ca (∀W,aq w.heap.size w W->zS 178 #[rb (qt ⟨c,0,qu⟩)] W (re qS)):=λW v=>bZ W (h.grow v);have rx:∀W,aq w.heap.size w W->zP 212 #[rh p.cells,qT p.snm] W (Z U 0):=λW v=>by
  have:=fD p.snm W (h.grow v).pg;unfold l5 at this;rw[oX] at this;exact this
 unfold Pg.cells at rx;have sY:=zH rx;have te:ca (∀W,aq w.heap.size w W->zP 213 #[rb (qt ⟨c,0,qu⟩),rh #[re qv,qT p.snm]] W (re qv)):=λW v=>nR p.snm W (h.grow v) rfl;have hst:∀(w:World)(c:cG bw),c.size=5->(cU ⟨w.heap.size,0,qu⟩ [qT fd.nm,re qv,qT p.snm,Z U fd.ln,Z U fd.cl] 0).run ac (w.alloc (rj c 92))= .ok () (w.alloc (rj #[qT fd.nm,re qv,qT p.snm,Z U fd.ln,Z U fd.cl] 92)):=λw c hc=>
  cf (P:=ac) w 92 c #[qT fd.nm,re qv,qT p.snm,Z U fd.ln,Z U fd.cl] (by show _=qt 5;kernel_rfl) hc (by simp[br])
 have tf:=zH hst;clear h K rr rS se sn sq rx rN sk hst;go_enter func175,ntmps175
 go_upto_region 3 with(first
  |(go_at_call 211;refine(yc _ _ _).mono ?_;rintro e w2 ⟨rfl,sx⟩;have rB:=zH sx;clear sx)
  |(go_at_call 176;refine(rv.out _ _ _ w2 rB.out).mono ?_;rintro e w3 ⟨rfl,sy⟩;have th:=zH (rB.out.trans (sy.mono rB.out.size));clear sy))
 clear c0
 go_loopw [3] (λi wr=>(i= Z U 0\/i= Z U 1)/\aq w.heap.size w wr) (λi _=>1-(intOf i).toNat)
 case atStart=>exact⟨.inl rfl,th.out⟩
 case round=>
  obtain⟨hi,d⟩:=hrel;have rI:=zH d;have ti:=zH (sX.out wr d);rcases hi with rfl|rfl
  rotate_left
  ·clear d
   go_wp2
   go_end0
   exact⟨rfl,rI.out⟩
  have b0:∀q:BW wr,q.w.cell? ⟨c,0,qu⟩=qt (ra (qt ⟨p.pA,0,qu⟩) 1 p.pC):=λq=>(rowAt (H.out.grow (d.trans (q.h.mono d.size))).row 0 rfl).1;have b1:∀q:BW wr,q.w.cell? ⟨c,1,qu⟩=qt (ra (qt ⟨p.qA,0,qu⟩) 1 p.qC):=λq=>(rowAt (H.out.grow (d.trans (q.h.mono d.size))).row 1 rfl).1;have s0:∀q:BW wr,q.w.cell? ⟨p.pA,0,qu⟩=qt (qT p.snm):=λq=>(R.out q.w (d.trans (q.h.mono d.size))).1;have s2:∀q:BW wr,q.w.cell? ⟨p.pA,2,qu⟩=qt (Z U p.sl):=λq=>(R.out q.w (d.trans (q.h.mono d.size))).2.2.1;have s3:∀q:BW wr,q.w.cell? ⟨p.pA,3,qu⟩=qt (Z U p.sc):=λq=>(R.out q.w (d.trans (q.h.mono d.size))).2.2.2;have tj:ca (∀q:BW wr,zP 176 #[rb (qt ⟨c,0,qu⟩),re qv,Z U 6,rh #[Z U p.sl,Z U p.sc]] q.w (re qv)):=λq=>rv.out 6 p.sl p.sc q.w (d.trans (q.h.mono d.size));have tl:=zH (λq:BW wr=>sY.out q.w (d.trans (q.h.mono d.size)));have tt:p.pA<wr.heap.size:=cn rL d.size;have tv:c<wr.heap.size:=cn sT d.size;clear d
  go_upto_region 5 with(go_at_call 178;refine ti.out.mono ?_;rintro e wr ⟨rfl,rfl⟩)
  go_cut [3] (λs wc=>s= Z U 0/\aq wr.heap.size wr wc)
  case first=>
   refine zQ ?_
   repeat (go_big_quiet_step (first
    |(go_at_call 212;exact aV (tl.out _))
    |(go_at_call 176;exact aV (tj.out _))))
   refine db ?_;rintro _ ⟨q,rfl⟩;have o:=q.h;clear b0 b1 s0 s2 s3;go_wp2
   go_meet
   case rel=>exact⟨rfl,o⟩
  case rest=>
   obtain⟨rfl,sB⟩:=hcut;clear b0 b1 s0 s2 s3;have sE:=rI.out.trans (sB.mono rI.out.size);have tm:=zH sE;clear sB sE
   go_upto_region 7 with(fail)
   go_loopw [4] (λk wq=>(k= Z U 0\/k= Z U 1)/\aq w.heap.size w wq) (λk _=>1-(intOf k).toNat)
   case atStart=>exact⟨.inl rfl,tm.out⟩
   case round=>
    obtain⟨hk,D⟩:=hrel;have sL:=zH D;obtain⟨s0,s1,s2,s3⟩:=R.out wr D;have tz:p.pA<wr.heap.size:=cn rL D.size;rcases hk with rfl|rfl
    rotate_left
    ·clear D
     go_wp2;go_roundw
     case rel=>exact⟨.inr rfl,sL.out⟩
     case measure=>simp[intOf]
    obtain⟨k0,k1,k2,k3,k4⟩:=HF.out wr D;have tn:=tf.out wr;have tA:y<wr.heap.size:=cn sf D.size;clear D
    go_upto_region 11 with(fail)
    clear tn;obtain⟨G,hG⟩:=zE wr.heap.size;obtain⟨W5,rl⟩:=zE (wr.alloc (rj #[qT fd.nm,re qv,qT p.snm,Z U fd.ln,Z U fd.cl] 92));rw[hG,rl];have sR:=zD rl sL;have rK:W5.heap[G]?=qt (rj #[qT fd.nm,re qv,qT p.snm,Z U fd.ln,Z U fd.cl] 92 (0,0)):=by rw[<-rl,<-hG];exact alloc_at _ _
    have rm:=aa rK;have J:=zH sR;have rn:=zH rK;clear hG rl sR rK s0 s1 s2 s3 k0 k1 k2 k3 k4
    go_loopw [6] (λj wq=>j= Z U 0/\wq=W5) (λ_ _=>0)
    case atStart=>exact⟨rfl,rfl⟩
    case round=>
     obtain⟨rfl,rfl⟩:=hrel;have x1:∀q:BW wr,q.w.cell? ⟨G,1,qu⟩=qt (re qv):=λq=>(rowAt ((q.h.block G rm).trans rn.out) 1 rfl).1;have x2:∀q:BW wr,q.w.cell? ⟨G,2,qu⟩=qt (qT p.snm):=λq=>(rowAt ((q.h.block G rm).trans rn.out) 2 rfl).1;have x3:∀q:BW wr,q.w.cell? ⟨G,3,qu⟩=qt (Z U fd.ln):=λq=>(rowAt ((q.h.block G rm).trans rn.out) 3 rfl).1;have x4:∀q:BW wr,q.w.cell? ⟨G,4,qu⟩=qt (Z U fd.cl):=λq=>(rowAt ((q.h.block G rm).trans rn.out) 4 rfl).1;have tp:ca (∀q:BW wr,zP 176 #[rb (qt ⟨c,0,qu⟩),re qv,Z U 5,rh #[Z U fd.ln,Z U fd.cl]] q.w (re qv)):=λq=>rv.out 5 fd.ln fd.cl q.w (J.out.trans (q.h.mono J.out.size));have tr:=zH (λq:BW wr=>te.out q.w (J.out.trans (q.h.mono J.out.size)))
     go_upto_region 14 with(fail)
     refine zQ ?_
     repeat (go_big_quiet_step (first
      |(go_at_call 213;exact aV (tr.out _))
      |(go_at_call 176;exact aV (tp.out _))))
     refine db ?_;rintro _ ⟨q,rfl⟩;have HQ:ca (aq w.heap.size w q.w):=J.out.trans (q.h.mono J.out.size);clear x1 x2 x3 x4;go_wp2;go_roundw
     case rel=>exact⟨.inr rfl,HQ.out⟩
     case measure=>simp[intOf]
def Pg.fnV (p:Pg):cG bw:=#[qT p.nm,ra qu 0 0,re p.ret.1,qT p.ret.2,ra p.bA p.ss.length p.bC,Z U p.gl,Z U p.gc]
theorem nz {c:cd}{p:Pg}{L:cd}{f0 f1 f2 f3 f4 f5 f6:bw}{sA:du oA}{sC:cd}{S:bm Fd}(w:World)(h:Ck c p L f0 f1 f2 f3 f4 f5 f6 sA sC S w)(sn:p.ret.1=qS)(hk:gM p p.ret [] p.ss)(sL:p.ss.length<=1000)(sq:∀j,j<p.ss.length->(p.ss.take j).any gB=qS)(sr:p.ss≠[])(sx:p.ss.any gB=qv):
  ft ac 179 #[rb (qt ⟨c,0,qu⟩),rh p.fnV] w λen w'=>en= rk (.tuple #[])/\
   Ck c p L (qT p.nm) (ra qu 0 0) (re p.ret.1) (qT p.ret.2) (ra p.bA p.ss.length p.bC) (Z U p.gl) (Z U p.gc) qu 0 [] w'/\Ext (·=c) w w':=by
 obtain⟨N,o⟩:=zE w.heap.size;unfold Pg.fnV;obtain⟨W1,rl⟩:=zE (w.alloc (rj #[qT p.nm,ra qu 0 0,re p.ret.1,qT p.ret.2,ra p.bA p.ss.length p.bC,Z U p.gl,Z U p.gc] 233));have rx:=gQ rl o;have rm:W1.heap[N]?=qt (rj #[qT p.nm,ra qu 0 0,re p.ret.1,qT p.ret.2,ra p.bA p.ss.length p.bC,Z U p.gl,Z U p.gc] 233 (0,0)):=by rw[<-rl,<-o];exact alloc_at _ _
 have tE:=aa rm;have h1:=h.grow (by rw[o];exact rx);have tG:c<N:=by rw[<-o];exact aa h.row
 have d:=h1.row;have tM:=aa d;have r2:=(rowAt d 2 rfl)
 have r3:=(rowAt d 3 rfl)
 have r4:=(rowAt d 4 rfl)
 have r5:=(rowAt d 5 rfl)
 have r6:=(rowAt d 6 rfl)
 have r7:=(rowAt d 7 rfl)
 have r8:=(rowAt d 8 rfl)
 have r9:=(rowAt d 9 rfl)
 obtain⟨u2,v2⟩:=r2;obtain⟨u3,v3⟩:=r3;obtain⟨u4,v4⟩:=r4;obtain⟨u5,v5⟩:=r5;obtain⟨u6,v6⟩:=r6;obtain⟨u7,v7⟩:=r7;obtain⟨u8,v8⟩:=r8;obtain⟨u9,v9⟩:=r9;obtain⟨⟨u,v,y,A,D,G,J⟩,_,tP⟩:=dC rm;have H1:=zH h1;have sR:=zH d;have sT:=zH rl;have sX:=zH rx;have sY:=zH rm;have te:=h.hc;have tf:=zH sn;have HK:=zH hk;have th:=zH sq;have ti:=zH sx;clear h sn hk sq sx rl rx rm h1 d;go_enter func179,ntmps179
 go_upto_region 1 with(fail)
 rw[sT.out]
 go_upto_region 4 with(fail)
 obtain⟨W2,rn⟩:=zE ((((((((W1.setCell ⟨c,2,qu⟩ (qT p.nm)).setCell ⟨c,3,qu⟩ (ra qu 0 0)).setCell ⟨c,4,qu⟩ (re p.ret.1)).setCell ⟨c,5,qu⟩ (qT p.ret.2)).setCell ⟨c,6,qu⟩ (ra p.bA p.ss.length p.bC)).setCell ⟨c,7,qu⟩ (Z U p.gl)).setCell ⟨c,8,qu⟩ (Z U p.gc)).setCell ⟨c,9,qu⟩ (ra qu 0 0));rw[rn];have rr:Ext (·=c) W1 W2:=by rw[<-rn];exact af (af (af (af (af (af (af (af (Ext.refl _ _) _) _) _) _) _) _) _) _
 have sy:Ck c p L (qT p.nm) (ra qu 0 0) (re p.ret.1) (qT p.ret.2) (ra p.bA p.ss.length p.bC) (Z U p.gl) (Z U p.gc) qu 0 [] W2:=by
  refine⟨?_,H1.out.pg.ext rr (λk hk e=>by omega),te,λh=>fL rfl h,by simp,λa h=>fL rfl h⟩;rw[<-rn];exact aE _ c 9 _ _ _ (aE _ c 8 _ _ _ (aE _ c 7 _ _ _ (aE _ c 6 _ _ _ (aE _ c 5 _ _ _ (aE _ c 4 _ _ _ (aE _ c 3 _ _ _ (aE _ c 2 _ _ _ sR.out)))))))
 have rB:=rr.heap sY.out (by omega);have tj:=zH rr;have rI:=zH sy;have f:=zH rB;have K:=aa rB;clear rn rr sy rB u2 u3 u4 u5 u6 u7 u8 u9 v2 v3 v4 v5 v6 v7 v8 v9 u v y A D G J
 go_loopw [4] (λk wq=>k= Z U 0/\wq=W2) (λ_ _=>0)
 case atStart=>exact⟨rfl,rfl⟩
 case round=>
  obtain⟨rfl,rfl⟩:=hrel;obtain⟨⟨u,v,y,A,D,G,J⟩,_,_⟩:=dC f.out
  go_upto_region 10 with(fail)
  clear u v y A D G J;have x2:∀q:BW wr,q.w.cell? ⟨N,2,qu⟩=qt (re p.ret.1):=λq=>(rowAt ((q.h.block N K).trans f.out) 2 rfl).1;have x3:∀q:BW wr,q.w.cell? ⟨N,3,qu⟩=qt (qT p.ret.2):=λq=>(rowAt ((q.h.block N K).trans f.out) 3 rfl).1;have x5:∀q:BW wr,q.w.cell? ⟨N,5,qu⟩=qt (Z U p.gl):=λq=>(rowAt ((q.h.block N K).trans f.out) 5 rfl).1;have x6:∀q:BW wr,q.w.cell? ⟨N,6,qu⟩=qt (Z U p.gc):=λq=>(rowAt ((q.h.block N K).trans f.out) 6 rfl).1;have tl:ca (∀q:BW wr,zP 213 #[rb (qt ⟨c,0,qu⟩),rh #[re p.ret.1,qT p.ret.2]] q.w (re qv)):=λq=>by
   rw[tf.out];exact vY p.ret.2 q.w (rI.out.grow q.h)
  have tm:ca (∀q:BW wr,zP 176 #[rb (qt ⟨c,0,qu⟩),re qv,Z U 5,rh #[Z U p.gl,Z U p.gc]] q.w (re qv)):=λq=>bG 5 p.gl p.gc q.w (rI.out.grow q.h)
  go_cut [3] (λs wc=>s= rb (qt ⟨N,0,qu⟩)/\aq wr.heap.size wr wc)
  case first=>
   refine zQ ?_
   repeat (go_big_quiet_step (first
    |(go_at_call 213;exact aV (tl.out _))
    |(go_at_call 176;exact aV (tm.out _))))
   refine db ?_;rintro _ ⟨q,rfl⟩;have hq:=q.h;clear x2 x3 x5 x6;go_wp2
   go_meet
   case rel=>exact⟨rfl,hq⟩
  case rest=>
   obtain⟨rfl,rv⟩:=hcut;clear x2 x3 x5 x6;have sB:=rI.out.grow rv;have tn:=zH (rF wc sB HK.out sL th.out sr);have rK:=(rv.block N K).trans f.out;obtain⟨⟨u,v,y,A,D,G,J⟩,_,tR⟩:=dC rK;have tp:=zH rv;have tr:=zH rK;clear sB rK rv
   go_upto_region 12 with(go_at_call 215;refine tn.out.mono ?_;rintro en R ⟨rfl,sE,rL⟩;have rN:=zH sE;have tt:=zH rL;have rS:=rL.heap tr.out (by omega);have se:=zH rS;have sf:=aa rS;clear sE rL rS)
   have y4:∀q:BW R,q.w.cell? ⟨N,4,qu⟩=qt (ra p.bA p.ss.length p.bC):=λq=>(rowAt ((q.h.block N sf).trans se.out) 4 rfl).1;have y5:∀q:BW R,q.w.cell? ⟨N,5,qu⟩=qt (Z U p.gl):=λq=>(rowAt ((q.h.block N sf).trans se.out) 5 rfl).1;have y6:∀q:BW R,q.w.cell? ⟨N,6,qu⟩=qt (Z U p.gc):=λq=>(rowAt ((q.h.block N sf).trans se.out) 6 rfl).1;have tv:ca (∀q:BW R,zP 176 #[rb (qt ⟨c,0,qu⟩),re qv,Z U 8,rh #[Z U p.gl,Z U p.gc]] q.w (re qv)):=λq=>bG 8 p.gl p.gc q.w (rN.out.grow q.h);have tz:ca (∀q:BW R,zP 216 #[ra p.bA p.ss.length p.bC] q.w (re qv)):=λq=>by
    have sk:=(rN.out.grow q.h).pg;obtain⟨b,tA,hA,tB,tD⟩:=sk.st sr;rw[hA];have:=kW b tA p.bC p.ss (by omega) (λx hx=>⟨HK.out.kinds x hx,(sk.sm hx).1⟩) q.w (λ_=>cn tB sk.lo) tD;rw[ti.out] at this;exact this
   clear u v y A D G J;refine zQ ?_
   repeat (go_big_quiet_step (first
    |(go_at_call 216;exact aV (tz.out _))
    |(go_at_call 176;exact aV (tv.out _))))
   refine db ?_;rintro _ ⟨q,rfl⟩;clear y4 y5 y6;go_wp2
   go_end0
   refine⟨rfl,rN.out.grow q.h, ?_⟩;have e1:Ext (·=c) w W1:=Ext.of_below_size (by rw[o];exact sX.out);exact(((e1.trans tj.out (λq h=> .inl h)).trans (Ext.of_below_size (M:=λ_=>jp) tp.out) (λq h=>h.elim)).trans tt.out (λq h=> .inl h)).trans (Ext.of_below_size (M:=λ_=>jp) q.h) (λq h=>h.elim)
def nU:aw:=⟨#[109,97,105,110]⟩
structure CJ (p:Pg):Prop where
 fs:∃fd,p.fs=[fd]/\fd.ty=(qv,p.snm)
 nm:p.nm=nU
 ret:p.ret.1=qS
 ok:gM p p.ret [] p.ss
 ss:p.ss.length<=1000
 en:∀j,j<p.ss.length->(p.ss.take j).any gB=qS
 ne:p.ss≠[]
 fin:p.ss.any gB=qv
def EA (p:Pg):cG bw:=#[ra (qt ⟨p.pA,0,qu⟩) 1 p.pC,ra (qt ⟨p.qA,0,qu⟩) 1 p.qC,qT ⟨#[]⟩,ra qu 0 0,re qS,qT ⟨#[]⟩,ra qu 0 0,Z U 0,Z U 0,ra qu 0 0,Z U 0,Z U 0,Z U 0,Z U 0,Z U 0]
def jJ (c:cd)(p:Pg)(L:cd)(w:World):Prop:=∃f0 f1 f2 f3 f4 f5 f6 sA sC S,Ck c p L f0 f1 f2 f3 f4 f5 f6 sA sC S w
theorem jJ.grow {c:cd}{p:Pg}{L:cd}{w w':World}(h:jJ c p L w)(d:aq w.heap.size w w'):jJ c p L w':=by
 obtain⟨f0,f1,f2,f3,f4,f5,f6,sA,sC,S,h⟩:=h;exact⟨f0,f1,f2,f3,f4,f5,f6,sA,sC,S,h.grow d⟩
theorem jJ.pg {c:cd}{p:Pg}{L:cd}{w:World}(h:jJ c p L w):iG p L w:=by
 obtain⟨f0,f1,f2,f3,f4,f5,f6,sA,sC,S,h⟩:=h;exact h.pg
theorem jy {c:cd}{p:Pg}{L:cd}(f a b:cj)(w:World)(h:jJ c p L w):
  zP 176 #[rb (qt ⟨c,0,qu⟩),re qv,Z U f,rh #[Z U a,Z U b]] w (re qv):=by
 obtain⟨f0,f1,f2,f3,f4,f5,f6,sA,sC,S,h⟩:=h;exact bG f a b w h
theorem uK {c:cd}{p:Pg}{L:cd}(w:World)(h:jJ c p L w):zS 178 #[rb (qt ⟨c,0,qu⟩)] w (re qS):=by
 obtain⟨f0,f1,f2,f3,f4,f5,f6,sA,sC,S,h⟩:=h;exact bZ w h
theorem wm {c:cd}{p:Pg}{L:cd}(w:World)(h:jJ c p L w)(d:CJ p):ft ac 179 #[rb (qt ⟨c,0,qu⟩),rh p.fnV] w λe w'=>e= rk (.tuple #[])/\jJ c p L w'/\Ext (·=c) w w':=by
 obtain⟨f0,f1,f2,f3,f4,f5,f6,sA,sC,S,h⟩:=h;refine(nz w h d.ret d.ok d.ss d.en d.ne d.fin).mono ?_;rintro e w' ⟨f,o,q⟩;exact⟨f,⟨_,_,_,_,_,_,_,_,_,_,o⟩,q⟩
theorem jJ.d {c:cd}{p:Pg}{L:cd}{w:World}(h:jJ c p L w):w.cell? ⟨c,10,qu⟩=qt (Z U 0)/\w.cell? ⟨c,11,qu⟩=qt (Z U 0)/\w.cell? ⟨c,12,qu⟩=qt (Z U 0)/\w.cell? ⟨c,13,qu⟩=qt (Z U 0)/\c<w.heap.size:=by
 obtain⟨f0,f1,f2,f3,f4,f5,f6,sA,sC,S,h⟩:=h;exact⟨(rowAt h.row 10 rfl).1,(rowAt h.row 11 rfl).1,(rowAt h.row 12 rfl).1,(rowAt h.row 13 rfl).1,aa h.row⟩
structure Bv (N:cd)(p:Pg)(L:cd)(w W:World):Prop where
 ck:jJ (N+2) p L W
 r0:W.heap[N]?=qt (rj #[ra (qt ⟨p.pA,0,qu⟩) 1 p.pC,ra (qt ⟨p.qA,0,qu⟩) 1 p.qC] 179 (0,0))
 r1:W.heap[N+1]?=qt (rj #[Z U 0,Z U 0,Z U 0,Z U 0] 113 (0,0))
 low:aq N w W
theorem Bv.grow {N:cd}{p:Pg}{L:cd}{w W W':World}(h:Bv N p L w W)(d:aq W.heap.size W W'):Bv N p L w W':=
 ⟨h.ck.grow d,(d.block N (aa h.r0)).trans h.r0,(d.block (N+1) (aa h.r1)).trans h.r1,h.low.trans (d.mono (mT (aa h.r0)))⟩
theorem Bv.fn {N:cd}{p:Pg}{L:cd}{w W:World}(h:Bv N p L w W):(W.cell? ⟨p.qA,0,qu⟩=qt (qT p.nm)/\W.cell? ⟨p.qA,1,qu⟩=qt (ra qu 0 0)/\W.cell? ⟨p.qA,2,qu⟩=qt (re p.ret.1)/\W.cell? ⟨p.qA,3,qu⟩=qt (qT p.ret.2)/\W.cell? ⟨p.qA,4,qu⟩=qt (ra p.bA p.ss.length p.bC)/\W.cell? ⟨p.qA,5,qu⟩=qt (Z U p.gl)/\W.cell? ⟨p.qA,6,qu⟩=qt (Z U p.gc))/\p.qA<W.heap.size:=by
 have d:=h.ck.pg.f;exact⟨⟨d 0 _ rfl,d 1 _ rfl,d 2 _ rfl,d 3 _ rfl,d 4 _ rfl,d 5 _ rfl,d 6 _ rfl⟩,cn h.ck.pg.qA h.ck.pg.lo⟩
theorem rG {p:Pg}{L:cd}(w:World)(h:iG p L w)(ho:CJ p):
  zP 130 #[rh p.cells] w (rh #[Z U 0,Z U 0,Z U 0,Z U 0]):=by
 obtain⟨N,A⟩:=zE w.heap.size;obtain⟨fd,se,sf⟩:=ho.fs;obtain⟨W2,D⟩:=zE ((w.alloc (rj #[ra (qt ⟨p.pA,0,qu⟩) 1 p.pC,ra (qt ⟨p.qA,0,qu⟩) 1 p.qC] 179)).alloc (rj #[Z U 0,Z U 0,Z U 0,Z U 0] 113));obtain⟨y,G⟩:=zE (W2.alloc (rj (EA p) 275));have sk:=qQ D A;have sn:W2.heap.size=N+2:=by rw[<-D];simp[A]
 have rx:aq N w y:=by rw[<-G];exact sk.alloc (by omega) _
 have sq:y.heap[N]?=qt (rj #[ra (qt ⟨p.pA,0,qu⟩) 1 p.pC,ra (qt ⟨p.qA,0,qu⟩) 1 p.qC] 179 (0,0)):=by
  rw[<-G];refine(bt _ _ N (by omega)).trans ?_;rw[<-D,<-A];exact fN _ _ _
 have sr:y.heap[N+1]?=qt (rj #[Z U 0,Z U 0,Z U 0,Z U 0] 113 (0,0)):=by
  rw[<-G];refine(bt _ _ (N+1) (by omega)).trans ?_;rw[<-D,<-A];exact jn _ _ _
 have sx:y.heap[N+2]?=qt (rj (EA p) 275 (0,0)):=by rw[<-G,<-sn];exact alloc_at _ _
 have sy:=h.grow (show aq w.heap.size w y by rw[A];exact rx);have rB:Ck (N+2) p L (qT ⟨#[]⟩) (ra qu 0 0) (re qS) (qT ⟨#[]⟩) (ra qu 0 0) (Z U 0) (Z U 0) qu 0 [] y:=
  ⟨sx,sy,by have:=h.lo;omega,λh=>fL rfl h,by simp,λa h=>fL rfl h⟩
 have ti:=zH (oq y rB se sf);have tj:ca (Bv N p L w y):=⟨⟨_,_,_,_,_,_,_,_,_,_,rB⟩,sq,sr,rx⟩
 have HO:=zH ho;have rI:=G;unfold EA at rI;have tl:=zH rI;have tm:=zH D;obtain⟨⟨o,u⟩,_,_⟩:=bL ((show W2.heap[N]?=qt (rj #[ra (qt ⟨p.pA,0,qu⟩) 1 p.pC,ra (qt ⟨p.qA,0,qu⟩) 1 p.qC] 179 (0,0)) by rw[<-D,<-A];exact fN _ _ _));have tv:N<W2.heap.size:=by omega
 unfold Pg.cells;clear h ho se sf D G rI sk rx sq sr sx sy rB;go_enter func130,ntmps130
 go_upto_region 1 with(fail)
 rw[tm.out]
 go_upto_region 2 with(fail)
 rw[tl.out];(try simp only[sn]);clear o u
 go_upto_region 4 with(go_at_call 175;refine ti.out.mono ?_;rintro en w4 ⟨rfl,sB⟩;have tn:=zH (tj.out.grow sB);clear sB)
 go_loopw [4] (λi wr=>(i= Z U 0\/i= Z U 1)/\Bv N p L w wr) (λi _=>1-(intOf i).toNat)
 case atStart=>exact⟨.inl rfl,tn.out⟩
 case round=>
  obtain⟨K,f⟩:=hrel;obtain⟨⟨R,q1,J,q3,q4,q5,q6⟩,tz⟩:=f.fn;obtain⟨⟨o,u⟩,_,tA⟩:=bL f.r0;have sE:=zH f;have rm:=zH (jy 2 p.gl p.gc wr f.ck);clear f;rcases K with rfl|rfl
  ·go_wp2_with (go_at_call 176;refine rm.out.mono ?_;rintro en w5 ⟨rfl,sL⟩;have rK:=zH (sE.out.grow sL);clear sL)
   go_roundw
   case rel=>exact⟨.inr rfl,rK.out⟩
   case measure=>simp[intOf]
  clear rm
  go_upto_region 8 with(fail)
  clear R q1 J q3 q4 q5 q6 o u
  go_loopw [5] (λi wr=>(i= Z U 0\/i= Z U 1)/\Bv N p L w wr) (λi _=>1-(intOf i).toNat)
  case atStart=>exact⟨.inl rfl,sE.out⟩
  case round=>
   obtain⟨K,f⟩:=hrel;obtain⟨⟨o,u⟩,_,tB⟩:=bL f.r0;have v:=zH f;have tD:=f.fn.2;clear f;rcases K with rfl|rfl
   ·go_upto_region 10 with(fail)
    clear o u;have x0:∀q:BW wr,q.w.cell? ⟨N,0,qu⟩=qt (ra (qt ⟨p.pA,0,qu⟩) 1 p.pC):=λq=>(rowAt (v.out.grow q.h).r0 0 rfl).1;have x1:∀q:BW wr,q.w.cell? ⟨N,1,qu⟩=qt (ra (qt ⟨p.qA,0,qu⟩) 1 p.qC):=λq=>(rowAt (v.out.grow q.h).r0 1 rfl).1;have y0:∀q:BW wr,q.w.cell? ⟨p.qA,0,qu⟩=qt (qT p.nm):=λq=>(v.out.grow q.h).fn.1.1;have y5:∀q:BW wr,q.w.cell? ⟨p.qA,5,qu⟩=qt (Z U p.gl):=λq=>(v.out.grow q.h).fn.1.2.2.2.2.2.1;have y6:∀q:BW wr,q.w.cell? ⟨p.qA,6,qu⟩=qt (Z U p.gc):=λq=>(v.out.grow q.h).fn.1.2.2.2.2.2.2;have rL:∀q:BW wr,zP 177 #[rh p.cells,qT p.nm] q.w (Z U 0):=λq=>by
     have:=l6 p.nm q.w (v.out.grow q.h).ck.pg;unfold Bq at this;rw[oX] at this;exact this
    unfold Pg.cells at rL;have tp:=zH rL;have rm:=zH (λq:BW wr=>jy 6 p.gl p.gc q.w (v.out.grow q.h).ck);clear rL;refine zQ ?_
    repeat (go_big_quiet_step (first
     |(go_at_call 177;exact aV (tp.out _))
     |(go_at_call 176;exact aV (rm.out _))))
    refine db ?_;rintro _ ⟨q,rfl⟩;have HQ:=zH (v.out.grow q.h);clear x0 x1 y0 y5 y6;go_wp2;go_roundw
    case rel=>exact⟨.inr rfl,HQ.out⟩
    case measure=>simp[intOf]
   go_upto_region 12 with(fail)
   clear o u
   go_loopw [6] (λi wr=>(i= Z U 0\/i= Z U 1)/\Bv N p L w wr) (λi _=>1-(intOf i).toNat)
   case atStart=>exact⟨.inl rfl,v.out⟩
   case round=>
    obtain⟨K,f⟩:=hrel;obtain⟨⟨o,u⟩,_,tE⟩:=bL f.r0;obtain⟨⟨R,q1,J,q3,q4,q5,q6⟩,tG⟩:=f.fn;have rl:=zH f;have sR:=zH (uK wr f.ck);have rN:=wm wr f.ck HO.out;unfold Pg.fnV at rN;have sT:=zH rN;clear f rN;rcases K with rfl|rfl
    ·go_wp2_with (first
      |(go_at_call 178;refine sR.out.mono ?_;rintro e wr ⟨rfl,rfl⟩)
      |(go_at_call 179;refine sT.out.mono ?_;rintro en w5 ⟨rfl,sX,rn⟩;have rK:ca (Bv N p L w w5):=(⟨sX,rn.heap rl.out.r0 (by omega),rn.heap rl.out.r1 (by omega),rl.out.low.trans (rn.below (by omega) (λq hq=>by omega))⟩:Bv N p L w w5);clear sX rn))
     go_roundw
     case rel=>exact⟨.inr rfl,rK.out⟩
     case measure=>simp[intOf]
    have sY:p.nm=nU:=HO.out.nm;have rS:zP 177 #[rh p.cells,qT nU] wr (Z U 0):=by
     have:=l6 nU wr rl.out.ck.pg;unfold Bq at this;rw[sY,oX] at this;exact this
    unfold Pg.cells nU at rS;have tr:=zH rS;clear sY rS sT sR
    go_upto_region 16 with(go_at_call 177;refine tr.out.mono ?_;rintro en w6 ⟨rfl,te⟩;have rr:=zH (rl.out.grow te);clear te)
    clear o u R q1 J q3 q4 q5 q6;obtain⟨⟨o,u⟩,_,tM⟩:=bL rr.out.r0;obtain⟨⟨R,q1,J,q3,q4,q5,q6⟩,tP⟩:=rr.out.fn;have tf:=HO.out.ret;rw[tf] at J;have tt:=zH (jy 9 1 1 w6 rr.out.ck);clear tf
    go_upto_region 17 with(go_at_call 176;refine tt.out.mono ?_;rintro en w7 ⟨rfl,th⟩;have rv:=zH (rr.out.grow th);clear th)
    clear o u R q1 J q3 q4 q5 q6;obtain⟨d0,d1,d2,d3,tR⟩:=rv.out.ck.d;obtain⟨⟨e0,e1,e2,e3⟩,⟨f0,f1,f2,f3⟩,tS⟩:=kK rv.out.r1;go_wp2;(try simp only[cL,Exit.then]);refine da (dv (P:=ac) rfl _ _ (N+1) 113 _ (0,0) _ rfl (gY rv.out.r1) mL rfl (by kernel_rfl)) rfl ?_;(try rw[A]);exact⟨rfl,oP rv.out.low (by omega) _ _ _ _⟩
theorem Bw:(ac.info? 34).map (λi=>(i.zero,i.size,i.bytes))=qt (qt (rh #[re qS,qT ⟨#[]⟩,Z U 0]),3,32):=by kernel_rfl
theorem Bz:(ac.info? 42).map (λi=>(i.zero,i.size,i.bytes))=qt (qt (rh #[Z U 0,Z U 0,Z U 0,Z U 0,Z U 0,Z U 0,qT ⟨#[]⟩,ra qu 0 0,ra qu 0 0,Z U 0,Z U 0,Z U 0,Z U 0]),13,144):=by kernel_rfl
structure Fx where
 rt:Ty
 nm:aw
 pr:bw
 r7:bw
 r8:bw
 r9:bw
 fr:bw
 hs:bw
 os:bw
structure Sl where
 vA:du oA
 vC:cd
 iA:du oA
 iC:cd
 sA:du oA
 sC:cd
 wA:du oA
 wC:cd
structure eX where
 op:cj
 d:cj
 a:cj
 f:cj
 n:cj
 ln:cj
 cl:cj
def eX.cells (i:eX):cG bw:=#[Z U i.op,Z U i.d,Z U i.a,Z U 0,Z U i.f,Z U i.n,qT ⟨#[]⟩,ra qu 0 0,ra qu 0 0,Z U 0,Z U 0,Z U i.ln,Z U i.cl]
def Ee (i:eX):bm bw:=i.cells.toList
def Ef (y:Ty):bm bw:=[re y.1,qT y.2,Z U 0]
def CK (p:Pg)(X:Fx)(s:Sl)(f h d:cd):cG bw:=
 #[ra (qt ⟨p.pA,0,qu⟩) 1 p.pC,ra (qt ⟨p.qA,0,qu⟩) 1 p.qC,re X.rt.1,qT X.rt.2,qT X.nm,X.pr,ra s.vA f s.vC,X.r7,X.r8,X.r9,X.fr,ra s.iA h s.iC,ra s.sA d s.sC,ra s.wA d s.wC,Z U 0,Z U 0,Z U 0,Z U 0,X.hs,X.os]
structure Mk (m:cd)(p:Pg)(L:cd)(X:Fx)(V:bm Ty)(I:bm eX)(S:bm (aw×cd))(O:cd->Prop)(s:Sl)(w:World):Prop where
 row:w.heap[m]?=qt (rj (CK p X s V.length I.length S.length) 236 (0,0))
 pg:iG p L w
 hm:L<=m
 vars:w.ownsRow (m+1) 34 3 (ra s.vA V.length s.vC) V.length (V.flatMap Ef)
 ins:w.ownsRow (m+1) 42 13 (ra s.iA I.length s.iC) I.length (I.flatMap Ee)
 dis:∀k,(bx s.vA V.length s.vC).ownBlock=qt k->(bx s.iA I.length s.iC).ownBlock=qt k->jp
 ov:∀k,(bx s.vA V.length s.vC).ownBlock=qt k->O k
 oi:∀k,(bx s.iA I.length s.iC).ownBlock=qt k->O k
 ol:∀k,O k->m<k/\k<w.heap.size
 seen:aH (λx:aw×cd=>#[qT x.1]) 1 w w.heap.size s.sA S
 whic:aH (λx:aw×cd=>#[Z U (x.2:cj)]) 1 w w.heap.size s.wA S
 ns:∀a,S≠[]->(s.sA=qt a\/s.wA=qt a)->a.block≠m/\¬O a.block
 lV:V.length<=1000
 lI:I.length<=1000
 lS:S.length<=1000
 cS:S.length<=s.sC/\S.length<=s.wC
section
variable {m:cd}{p:Pg}{L:cd}{X:Fx}{V:bm Ty}{I:bm eX}{S:bm (aw×cd)}{O:cd->Prop}{s:Sl}{w w':World}
theorem aH.stay {α:Type}{cells:α->cG bw}{d:cd}{w w':World}{f:du oA}{xs:bm α}{M:cd->Prop}(h:aH cells d w w.heap.size f xs)(q:Ext M w w')(D:∀a,xs≠[]->f=qt a->¬M a.block):aH cells d w' w'.heap.size f xs:=by
 intro v;obtain⟨b,o,y,A,G⟩:=h v;exact⟨b,o,y,cn A q.size,λi x J k u K=>(q.cell (a:=⟨b,o+i*d+k,qu⟩) A (D ⟨b,o,qu⟩ v y)).trans (G i x J k u K)⟩
theorem Mk.ext {M:cd->Prop}(h:Mk m p L X V I S O s w)(d:Ext M w w')(q:∀k,k<=m->¬M k)(u:∀k,O k->¬M k)(v:∀a,S≠[]->(s.sA=qt a\/s.wA=qt a)->¬M a.block):Mk m p L X V I S O s w':=
 ⟨d.heap h.row (q m (bp _)),h.pg.ext d (λk f=>q k (by have:=h.hm;omega)),h.hm,ae h.vars d (λk f=>u k (h.ov k f)),ae h.ins d (λk f=>u k (h.oi k f)),h.dis,h.ov,h.oi,λk f=>⟨(h.ol k f).1,cn (h.ol k f).2 d.size⟩,
  h.seen.stay d (λa o e=>v a o (.inl e)),h.whic.stay d (λa o e=>v a o (.inr e)),h.ns,h.lV,h.lI,h.lS,h.cS⟩
theorem Mk.grow (h:Mk m p L X V I S O s w)(d:aq w.heap.size w w'):Mk m p L X V I S O s w':=h.ext (Ext.of_below_size (M:=λ_=>jp) d) (λ_ _ h=>h) (λ_ _ h=>h) (λ_ _ _ h=>h)
end
def bT (m:cd)(p:Pg)(L:cd)(X:Fx)(V:bm Ty)(I:bm eX)(S:bm (aw×cd))(O:cd->Prop)(w w':World):Prop:=
 ∃d s',Mk m p L X V I S d s' w'/\Ext (λq=>q=m\/O q) w w'/\∀k,d k->O k\/w.heap.size<=k
theorem bT.trans {m:cd}{p:Pg}{L:cd}{X:Fx}{V2:bm Ty}{I2:bm eX}{f:bm (aw×cd)}{O o:cd->Prop}{w w1 w2:World}(u:Ext (λq=>q=m\/O q) w w1)(v:∀k,o k->O k\/w.heap.size<=k)(h:bT m p L X V2 I2 f o w1 w2):bT m p L X V2 I2 f O w w2:=by
 obtain⟨y,s',A,D,G⟩:=h;refine⟨y,s',A,u.trans D (λq d=> ?_),λk J=> ?_⟩
 ·rcases d with rfl|d
  ·exact .inl (.inl rfl)
  ·rcases v q d with h|h
   ·exact .inl (.inr h)
   ·exact .inr h
 ·rcases G k J with h|h
  ·exact v k h
  ·exact .inr (cE u.size h)
theorem kX {m:cd}{p:Pg}{L:cd}{X:Fx}{V:bm Ty}{I:bm eX}{S:bm (aw×cd)}{O:cd->Prop}{s:Sl}(y:Ty)(w:World)(h:Mk m p L X V I S O s w)(hl:V.length+1<=1000):
  ft ac 131 #[rb (qt ⟨m,0,qu⟩),rh #[re y.1,qT y.2]] w λe w'=>e= rk (Z U (V.length:cj))/\bT m p L X (V++[y]) I S O w w':=by
 obtain⟨N,hN⟩:=zE w.heap.size;obtain⟨A,rx⟩:=zE (w.alloc (rj #[re y.1,qT y.2] 32));have sk:=gQ rx hN;have sn:A.heap[N]?=qt (rj #[re y.1,qT y.2] 32 (0,0)):=by rw[<-rx,<-hN];exact alloc_at _ _
 have ue:=aa sn;have u:Mk m p L X V I S O s A:=h.grow (by rw[hN];exact sk);have ur:m<N:=by have:=aa h.row;omega
 have sY:∀k,O k->k<N:=λk f=>by have:=(h.ol k f).2;omega
 obtain⟨v,hv⟩:=zE (bx s.vA V.length s.vC);have sq:=u.vars;rw[hv] at sq;obtain⟨i0,te,tf,th,ti⟩:=ld Bw;obtain⟨S1,sr⟩:=zE ((λw'=>w'.cell? ⟨m,6,qu⟩=qt v/\w'.heap[N]?=qt (rj #[re y.1,qT y.2] 32 (0,0))):World->Prop);have tj:∀w,S1 w->w.cell? ⟨m,6,qu⟩=qt v/\w.heap[N]?=qt (rj #[re y.1,qT y.2] 32 (0,0)):=λw h=>by rw[<-sr] at h;exact h
 have sx:∀w,w.cell? ⟨m,6,qu⟩=qt v/\w.heap[N]?=qt (rj #[re y.1,qT y.2] 32 (0,0))->S1 w:=λw h=>by rw[<-sr];exact h
 have sy:=u.row;have uv:=aa sy;have sB:A.drew.heap[m]?=qt (rj (CK p X s V.length I.length S.length) 236 (0,0)):=sy;have sE:A.drew.heap[N]?=qt (rj #[re y.1,qT y.2] 32 (0,0)):=sn;have ux:S1 A.drew:=sx _ ⟨by rw[<-hv];exact(rowAt sB 6 rfl).1,sE⟩;have tl:=zH tj;have tm:=zH sx;have tE:=zH rx;have tn:=zH sk;have tG:=zH u;have va:=zH sq;have tM:=zH sB;have tP:=zH sE;have HV:=zH hv;have tR:=zH sY;clear h rx sk sn u sq sr tj sx sy sB sE hv sY;go_enter func131,ntmps131
 go_upto_region 1 with(fail)
 rw[tE.out];refine ah 13 S1 (by kernel_rfl) ?_;have D:=zH λw h=>And.intro (tl.out w h) (Ea (tl.out w h).2);refine zT 0 rfl D.out ?_;(try go_simp);refine zT 1 rfl D.out ?_;(try go_simp);refine zT 2 rfl D.out ?_;(try go_simp);refine zT 3 rfl D.out ?_;(try go_simp);refine zT 4 rfl D.out ?_;(try go_simp);refine zT 5 rfl D.out ?_;(try go_simp);refine zT 6 rfl D.out ?_;(try go_simp);refine zT 7 rfl D.out ?_;(try go_simp);refine zO 8 rfl λK' R=> ?_;go_simp;obtain⟨G,hG⟩:=zE A.heap.size;obtain⟨W8,rB⟩:=zE ((A.alloc (rj #[re y.1,qT y.2,Z U 0] 34)).drew);(try rw[hG]);(try rw[rB]);have rI:aq G A W8:=by rw[<-rB,<-hG];exact((an _ _).alloc (bp _) _).drew
 have tp:W8.heap[G]?=qt (rj #[re y.1,qT y.2,Z U 0] 34 (0,0)):=by rw[<-rB,<-hG];exact alloc_at _ _
 have rK:=(rI.block m (by omega)).trans tM.out;have sL:=(rI.block N (by omega)).trans tP.out;refine R _ _ (tm.out _ ⟨by rw[<-HV.out];exact(rowAt rK 6 rfl).1,sL⟩) ?_;clear R;(try go_simp);refine zO 9 rfl λK' R=> ?_;have rL:Ext (λ_=>jp) A W8:=Ext.of_below_size (by rw[hG];exact rI);have d:Mk m p L X V I S O s W8:=tG.out.ext rL (λ_ _ h=>h) (λ_ _ h=>h) (λ_ _ _ h=>h);have sR:=d.vars;rw[HV.out] at sR;have vc:=aa rK;refine aB (.tmp 10) (.tmp 13) 30 rfl (m+1) 34 i0 _ 3 32 underlying30 te tf th ti rfl (by decide) v V.length _ rfl sR (qt ⟨G,0,qu⟩) 1 1 [re y.1,qT y.2,Z U 0] rfl rfl (λh=>by cases h) (λad tS jj uu hu=>by
  obtain rfl:(⟨G,0,qu⟩:oA)=ad:=by simpa using tS
  rw[cM,cH,bh _ _ _ _ _ _ tp];simpa using hu) (by simp[br]) (by unfold dl;omega) (by omega) (by omega) ?_
 intro v9 w9 rr tr tt;have rN:Ext (λq=>v.ownBlock=qt q) W8 w9:=Ext.of_grown tr (λq o=> .inl o);have K:∀q,v.ownBlock=qt q->O q:=λq o=>d.ov q (by rw[HV.out];exact o);have rv:=rN.heap rK (λo=>by have:=(d.ol _ (K _ o)).1;omega);have tv:=rN.heap sL (λo=>by have:=tR.out _ (K _ o);omega);obtain⟨rl,c9,tU⟩:=av rr;subst tU;have tz:S1 w9:=tm.out _ ⟨by rw[<-HV.out];exact(rowAt rv 6 rfl).1,tv⟩;have tW:=(rowAt rv 6 rfl).2;have ua:w9.cell? ⟨m,6,qu⟩=qt v:=by rw[<-HV.out];exact(rowAt rv 6 rfl).1
 refine R _ _ tz ?_;clear R;(try go_simp);refine zT 10 rfl D.out ?_;(try go_simp);refine zT 11 rfl D.out ?_;(try go_simp);refine zT 12 rfl D.out ?_;(try go_simp);refine zK rfl λK' R=> ?_;go_simp;refine R _ _ ?_;clear R;refine⟨by kernel_rfl, ?_⟩;obtain⟨WF,rS⟩:=zE (w9.setCell ⟨m,6,qu⟩ (ra rl (V.length+1) c9));(try rw[rS]);have se:Ext (·=m) w9 WF:=by rw[<-rS];exact Ext.set1 w9 m 6 _
 have sT:WF.heap[m]?=qt (rj (CK p X {s with vA:=rl,vC:=c9} (V.length+1) I.length S.length) 236 (0,0)):=by rw[<-rS];exact aE w9 m 6 _ _ _ rv
 have rm:Ext (λq=>q=m\/v.ownBlock=qt q) W8 WF:=(rN.mono (λq h=> .inr h)).trans se (λq h=> .inl (.inl h));have tA:Ext (λq=>q=m\/v.ownBlock=qt q) A WF:=(rL.mono (λq h=>h.elim)).trans rm (λq h=> .inl h);have rn:(V++[y]).length=V.length+1:=by simp
 have sf:∀k,(bx rl (V.length+1) c9).ownBlock=qt k->v.ownBlock=qt k\/W8.heap.size<=k:=tt;have tB:∀k,(bx rl (V.length+1) c9).ownBlock=qt k->k<WF.heap.size:=λk f=>cn (rr.lt k f).2 se.size;have sX:∀k,(bx rl (V.length+1) c9).ownBlock=qt k->m+1<=k:=λk f=>(rr.lt k f).1;have tD:bT m p L X (V++[y]) I S O w WF:=by
  refine⟨λq=>O q\/(bx rl (V.length+1) c9).ownBlock=qt q,{s with vA:=rl,vC:=c9}, ?_, ?_,λk f=> ?_⟩
  ·refine⟨by rw[rn];exact sT,d.pg.ext rm (λk f o=> ?_),d.hm, ?_,ae d.ins rm (λk f o=> ?_),λk u h2=> ?_,λk f=> ?_,λk f=> ?_,λk f=> ?_,d.seen.stay rm (λa J e o=> ?_),d.whic.stay rm (λa J e o=> ?_),λa J e=>⟨(d.ns a J e).1,λo=> ?_⟩,by rw[rn];omega,d.lI,d.lS,d.cS⟩
   ·have:=d.hm
    rcases o with h|h
    ·omega
    ·have:=(d.ol _ (K _ h)).1;omega
   ·rw[rn,el];exact ae rr se (λk f e=>by have:=sX k f;omega)
   ·rcases o with h|h
    ·have:=(d.ol k (d.oi k f)).1;omega
    ·exact d.dis k (by rw[HV.out];exact h) f
   ·rw[rn] at u
    rcases sf k u with h|h
    ·exact d.dis k (by rw[HV.out];exact h) h2
    ·have:=(d.ol k (d.oi k h2)).2;omega
   ·rw[rn] at f;exact .inr f
   ·exact .inl (d.oi k f)
   ·rcases f with h|h
    ·exact⟨(d.ol k h).1,cn (d.ol k h).2 rm.size⟩
    ·exact⟨sX k h,tB k h⟩
   ·rcases o with h|h
    ·exact(d.ns a J (.inl e)).1 h
    ·exact(d.ns a J (.inl e)).2 (K _ h)
   ·rcases o with h|h
    ·exact(d.ns a J (.inr e)).1 h
    ·exact(d.ns a J (.inr e)).2 (K _ h)
   ·rcases o with h|h
    ·exact(d.ns a J e).2 h
    ·rcases sf _ h with h|h
     ·exact(d.ns a J e).2 (K _ h)
     ·have vd:a.block<W8.heap.size:=by
       rcases e with e|e
       ·obtain⟨b,ub,u,h2,_⟩:=d.seen J
        rw[e] at u;cases u;exact h2
       ·obtain⟨b,ub,u,h2,_⟩:=d.whic J
        rw[e] at u;cases u;exact h2
      omega
  ·have uc:Ext (λ_=>jp) w A:=Ext.of_below_size (by rw[hN];exact tn.out)
   exact(uc.mono (λq h=>h.elim)).trans tA (λq h=>by
    rcases h with h|h
    ·exact .inl (.inl h)
    ·exact .inl (.inr (K _ h)))
  ·rcases f with h|h
   ·exact .inl h
   ·rcases sf k h with h|h
    ·exact .inl (K _ h)
    ·right;have:=rL.size;have:=tn.out.size;omega
 have ud:=zH tD;have cF:WF.cell? ⟨m,6,qu⟩=qt (ra rl (V.length+1) c9):=(rowAt sT 6 rfl).1;have vf:=zH rn;have vh:(((V.length+1:cd):cj))-1=(V.length:cj):=by omega
 clear rS se rm tA sf tB sX tD sT rr tr tt rN K rv tv tz tW ua d sR rK sL rL rI tp rB hG te tf th ti;go_wp2;go_ret;exact⟨by go_num,ud.out⟩
theorem gN {m:cd}{p:Pg}{L:cd}{X:Fx}{V:bm Ty}{I:bm eX}{S:bm (aw×cd)}{O:cd->Prop}{s:Sl}(i:eX)(w:World)(h:Mk m p L X V I S O s w)(hl:I.length+1<=1000):
  ft ac 223 #[rb (qt ⟨m,0,qu⟩),rh #[Z U i.op,Z U i.d,Z U i.a,Z U 0,Z U i.f,Z U i.n,qT ⟨#[]⟩,ra qu 0 0,ra qu 0 0,Z U 0,Z U 0,Z U i.ln,Z U i.cl]] w λe w'=>e= rk (Z U (I.length:cj))/\bT m p L X V (I++[i]) S O w w':=by
 obtain⟨N,hN⟩:=zE w.heap.size;obtain⟨D,rx⟩:=zE (w.alloc (rj #[Z U i.op,Z U i.d,Z U i.a,Z U 0,Z U i.f,Z U i.n,qT ⟨#[]⟩,ra qu 0 0,ra qu 0 0,Z U 0,Z U 0,Z U i.ln,Z U i.cl] 42));have sk:=gQ rx hN;have sn:D.heap[N]?=qt (rj #[Z U i.op,Z U i.d,Z U i.a,Z U 0,Z U i.f,Z U i.n,qT ⟨#[]⟩,ra qu 0 0,ra qu 0 0,Z U 0,Z U 0,Z U i.ln,Z U i.cl] 42 (0,0)):=by rw[<-rx,<-hN];exact alloc_at _ _
 have ue:=aa sn;have A:Mk m p L X V I S O s D:=h.grow (by rw[hN];exact sk);have ur:m<N:=by have:=aa h.row;omega
 have sY:∀k,O k->k<N:=λk u=>by have:=(h.ol k u).2;omega
 obtain⟨v,hv⟩:=zE (bx s.iA I.length s.iC);have sq:=A.ins;rw[hv] at sq;obtain⟨i0,te,tf,th,ti⟩:=ld Bz;obtain⟨S1,sr⟩:=zE ((λw'=>w'.cell? ⟨m,11,qu⟩=qt v/\w'.heap[N]?=qt (rj #[Z U i.op,Z U i.d,Z U i.a,Z U 0,Z U i.f,Z U i.n,qT ⟨#[]⟩,ra qu 0 0,ra qu 0 0,Z U 0,Z U 0,Z U i.ln,Z U i.cl] 42 (0,0))):World->Prop);have tj:∀w,S1 w->w.cell? ⟨m,11,qu⟩=qt v/\w.heap[N]?=qt (rj #[Z U i.op,Z U i.d,Z U i.a,Z U 0,Z U i.f,Z U i.n,qT ⟨#[]⟩,ra qu 0 0,ra qu 0 0,Z U 0,Z U 0,Z U i.ln,Z U i.cl] 42 (0,0)):=λw h=>by rw[<-sr] at h;exact h
 have sx:∀w,w.cell? ⟨m,11,qu⟩=qt v/\w.heap[N]?=qt (rj #[Z U i.op,Z U i.d,Z U i.a,Z U 0,Z U i.f,Z U i.n,qT ⟨#[]⟩,ra qu 0 0,ra qu 0 0,Z U 0,Z U 0,Z U i.ln,Z U i.cl] 42 (0,0))->S1 w:=λw h=>by rw[<-sr];exact h
 have sy:=A.row;have uv:=aa sy;have sB:D.drew.heap[m]?=qt (rj (CK p X s V.length I.length S.length) 236 (0,0)):=sy;have sE:D.drew.heap[N]?=qt (rj #[Z U i.op,Z U i.d,Z U i.a,Z U 0,Z U i.f,Z U i.n,qT ⟨#[]⟩,ra qu 0 0,ra qu 0 0,Z U 0,Z U 0,Z U i.ln,Z U i.cl] 42 (0,0)):=sn;have ux:S1 D.drew:=sx _ ⟨by rw[<-hv];exact(rowAt sB 11 rfl).1,sE⟩;have tl:=zH tj;have tm:=zH sx;have tE:=zH rx;have tn:=zH sk;have tG:=zH A;have va:=zH sq;have tM:=zH sB;have tP:=zH sE;have HV:=zH hv;have tR:=zH sY;clear h rx sk sn A sq sr tj sx sy sB sE hv sY;go_enter func223,ntmps223
 go_upto_region 1 with(fail)
 rw[tE.out];refine ah 12 S1 (by kernel_rfl) ?_;have K:=zH λw h=>And.intro (tl.out w h) (DI (tl.out w h).2);refine zT 0 rfl K.out ?_;(try go_simp);refine zT 1 rfl K.out ?_;(try go_simp);refine zT 2 rfl K.out ?_;(try go_simp);refine zT 3 rfl K.out ?_;(try go_simp);refine zT 4 rfl K.out ?_;(try go_simp);refine zT 5 rfl K.out ?_;(try go_simp);refine zT 6 rfl K.out ?_;(try go_simp);refine zO 7 rfl λK' hK=> ?_;go_simp;obtain⟨G,hG⟩:=zE D.heap.size;obtain⟨W8,rB⟩:=zE ((D.alloc (rj #[Z U i.op,Z U i.d,Z U i.a,Z U 0,Z U i.f,Z U i.n,qT ⟨#[]⟩,ra qu 0 0,ra qu 0 0,Z U 0,Z U 0,Z U i.ln,Z U i.cl] 42)).drew);(try rw[hG]);(try rw[rB]);have rI:aq G D W8:=by rw[<-rB,<-hG];exact((an _ _).alloc (bp _) _).drew
 have tp:W8.heap[G]?=qt (rj #[Z U i.op,Z U i.d,Z U i.a,Z U 0,Z U i.f,Z U i.n,qT ⟨#[]⟩,ra qu 0 0,ra qu 0 0,Z U 0,Z U 0,Z U i.ln,Z U i.cl] 42 (0,0)):=by rw[<-rB,<-hG];exact alloc_at _ _
 have rK:=(rI.block m (by omega)).trans tM.out;have sL:=(rI.block N (by omega)).trans tP.out;refine hK _ _ (tm.out _ ⟨by rw[<-HV.out];exact(rowAt rK 11 rfl).1,sL⟩) ?_;clear hK;(try go_simp);refine zO 8 rfl λK' hK=> ?_;have rL:Ext (λ_=>jp) D W8:=Ext.of_below_size (by rw[hG];exact rI);have o:Mk m p L X V I S O s W8:=tG.out.ext rL (λ_ _ h=>h) (λ_ _ h=>h) (λ_ _ _ h=>h);have sR:=o.ins;rw[HV.out] at sR;have vc:=aa rK;refine aB (.tmp 10) (.tmp 12) 36 rfl (m+1) 42 i0 _ 13 144 underlying36 te tf th ti rfl (by decide) v I.length _ rfl sR (qt ⟨G,0,qu⟩) 1 1 [Z U i.op,Z U i.d,Z U i.a,Z U 0,Z U i.f,Z U i.n,qT ⟨#[]⟩,ra qu 0 0,ra qu 0 0,Z U 0,Z U 0,Z U i.ln,Z U i.cl] rfl rfl (λh=>by cases h) (λad tS jj uu hu=>by
  obtain rfl:(⟨G,0,qu⟩:oA)=ad:=by simpa using tS
  rw[cM,cH,bh _ _ _ _ _ _ tp];simpa using hu) (by simp[br]) (by unfold dl;omega) (by omega) (by omega) ?_
 intro v9 w9 rr tr tt;have rN:Ext (λq=>v.ownBlock=qt q) W8 w9:=Ext.of_grown tr (λq y=> .inl y);have R:∀q,v.ownBlock=qt q->O q:=λq y=>o.oi q (by rw[HV.out];exact y);have rv:=rN.heap rK (λy=>by have:=(o.ol _ (R _ y)).1;omega);have tv:=rN.heap sL (λy=>by have:=tR.out _ (R _ y);omega);obtain⟨rl,c9,tU⟩:=av rr;subst tU;have tz:S1 w9:=tm.out _ ⟨by rw[<-HV.out];exact(rowAt rv 11 rfl).1,tv⟩;have tW:=(rowAt rv 11 rfl).2;have ua:w9.cell? ⟨m,11,qu⟩=qt v:=by rw[<-HV.out];exact(rowAt rv 11 rfl).1
 refine hK _ _ tz ?_;clear hK;(try go_simp);refine zT 9 rfl K.out ?_;(try go_simp);refine zT 10 rfl K.out ?_;(try go_simp);refine zT 11 rfl K.out ?_;(try go_simp);refine zK rfl λK' hK=> ?_;go_simp;refine hK _ _ ?_;clear hK;refine⟨by kernel_rfl, ?_⟩;obtain⟨WF,rS⟩:=zE (w9.setCell ⟨m,11,qu⟩ (ra rl (I.length+1) c9));(try rw[rS]);have se:Ext (·=m) w9 WF:=by rw[<-rS];exact Ext.set1 w9 m 11 _
 have sT:WF.heap[m]?=qt (rj (CK p X {s with iA:=rl,iC:=c9} V.length (I.length+1) S.length) 236 (0,0)):=by rw[<-rS];exact aE w9 m 11 _ _ _ rv
 have rm:Ext (λq=>q=m\/v.ownBlock=qt q) W8 WF:=(rN.mono (λq h=> .inr h)).trans se (λq h=> .inl (.inl h));have tA:Ext (λq=>q=m\/v.ownBlock=qt q) D WF:=(rL.mono (λq h=>h.elim)).trans rm (λq h=> .inl h);have rn:(I++[i]).length=I.length+1:=by simp
 have sf:∀k,(bx rl (I.length+1) c9).ownBlock=qt k->v.ownBlock=qt k\/W8.heap.size<=k:=tt;have tB:∀k,(bx rl (I.length+1) c9).ownBlock=qt k->k<WF.heap.size:=λk u=>cn (rr.lt k u).2 se.size;have sX:∀k,(bx rl (I.length+1) c9).ownBlock=qt k->m+1<=k:=λk u=>(rr.lt k u).1;have tD:bT m p L X V (I++[i]) S O w WF:=by
  refine⟨λq=>O q\/(bx rl (I.length+1) c9).ownBlock=qt q,{s with iA:=rl,iC:=c9}, ?_, ?_,λk u=> ?_⟩
  ·refine⟨by rw[rn];exact sT,o.pg.ext rm (λk u y=> ?_),o.hm,ae o.vars rm (λk u y=> ?_), ?_,λk A h2=> ?_,λk u=> ?_,λk u=> ?_,λk u=> ?_,o.seen.stay rm (λa J e y=> ?_),o.whic.stay rm (λa J e y=> ?_),λa J e=>⟨(o.ns a J e).1,λy=> ?_⟩,o.lV,by rw[rn];omega,o.lS,o.cS⟩
   ·have:=o.hm
    rcases y with h|h
    ·omega
    ·have:=(o.ol _ (R _ h)).1;omega
   ·rcases y with h|h
    ·have:=(o.ol k (o.ov k u)).1;omega
    ·exact o.dis k u (by rw[HV.out];exact h)
   ·rw[rn,el];exact ae rr se (λk u e=>by have:=sX k u;omega)
   ·rw[rn] at h2
    rcases sf k h2 with h|h
    ·exact o.dis k A (by rw[HV.out];exact h)
    ·have:=(o.ol k (o.ov k A)).2;omega
   ·exact .inl (o.ov k u)
   ·rw[rn] at u;exact .inr u
   ·rcases u with h|h
    ·exact⟨(o.ol k h).1,cn (o.ol k h).2 rm.size⟩
    ·exact⟨sX k h,tB k h⟩
   ·rcases y with h|h
    ·exact(o.ns a J (.inl e)).1 h
    ·exact(o.ns a J (.inl e)).2 (R _ h)
   ·rcases y with h|h
    ·exact(o.ns a J (.inr e)).1 h
    ·exact(o.ns a J (.inr e)).2 (R _ h)
   ·rcases y with h|h
    ·exact(o.ns a J e).2 h
    ·rcases sf _ h with h|h
     ·exact(o.ns a J e).2 (R _ h)
     ·have vd:a.block<W8.heap.size:=by
       rcases e with e|e
       ·obtain⟨b,ub,A,h2,_⟩:=o.seen J
        rw[e] at A;cases A;exact h2
       ·obtain⟨b,ub,A,h2,_⟩:=o.whic J
        rw[e] at A;cases A;exact h2
      omega
  ·have uc:Ext (λ_=>jp) w D:=Ext.of_below_size (by rw[hN];exact tn.out)
   exact(uc.mono (λq h=>h.elim)).trans tA (λq h=>by
    rcases h with h|h
    ·exact .inl (.inl h)
    ·exact .inl (.inr (R _ h)))
  ·rcases u with h|h
   ·exact .inl h
   ·rcases sf k h with h|h
    ·exact .inl (R _ h)
    ·right;have:=rL.size;have:=tn.out.size;omega
 have ud:=zH tD;have cF:WF.cell? ⟨m,11,qu⟩=qt (ra rl (I.length+1) c9):=(rowAt sT 11 rfl).1;have vf:=zH rn;have vh:(((I.length+1:cd):cj))-1=(I.length:cj):=by omega
 clear rS se rm tA sf tB sX tD sT rr tr tt rN R rv tv tz tW ua o sR rK sL rL rI tp rB hG te tf th ti;go_wp2;go_ret;exact⟨by go_num,ud.out⟩
theorem yf {S:bm (aw×cd)}{nm:aw}{j i:cd}{x:aw×cd}(f:S[j]?=qt x)(o:(x.1==nm)=qv)(u:∀q y,j<q->S[q]?=qt y->(y.1==nm)=qS)(v:j<=i){y:aw×cd}(d:S[i]?=qt y):
  (i=j/\y=x/\(y.1.toList==nm.toList)=qv)\/(j<i/\(y.1.toList==nm.toList)=qS):=by
 rcases Nat.lt_or_eq_of_le v with h|h
 ·exact .inr ⟨h,by rw[<-eL];exact u i y h d⟩
 ·subst h
  rw[f] at d;cases d;exact .inl ⟨rfl,rfl,by rw[<-eL];exact o⟩
theorem ma {m:cd}{p:Pg}{L:cd}{X:Fx}{V:bm Ty}{I:bm eX}{S:bm (aw×cd)}{O:cd->Prop}{s:Sl}(nm:aw)(j:cd)(x:aw×cd)(f:S[j]?=qt x)(D:(x.1==nm)=qv)(G:∀q y,j<q->S[q]?=qt y->(y.1==nm)=qS)(w:World)(h:Mk m p L X V I S O s w):
  zS 218 #[rb (qt ⟨m,0,qu⟩),qT nm] w (Z U (x.2:cj)):=by
 have J:S≠[]:=by intro e;rw[e] at f;simp at f
 obtain⟨b,rm,K,hb,R⟩:=h.seen J;obtain⟨b2,rn,hA2,rv,rl⟩:=h.whic J;have rx:w.cell? ⟨m,12,qu⟩=qt (ra (qt ⟨b,rm,qu⟩) S.length s.sC):=by rw[<-K];exact(rowAt h.row 12 rfl).1
 have rB:w.cell? ⟨m,13,qu⟩=qt (ra (qt ⟨b2,rn,qu⟩) S.length s.wC):=by rw[<-hA2];exact(rowAt h.row 13 rfl).1
 have hm:=aa h.row;have rI:=h.lS;have rK:j<S.length:=(bl.1 f).1;have o:=zH R;have u:=zH rl;have v:ca (∀i y,j<=i->S[i]?=qt y->(i=j/\y=x/\(y.1.toList==nm.toList)=qv)\/(j<i/\(y.1.toList==nm.toList)=qS)):=λi y A d=>yf f D G A d;clear h R rl f D G K hA2;go_enter func218,ntmps218;go_wp2
 go_loop [5] (λk=>∃i:cd,k= Z U (i:cj)/\j<=i/\i<S.length) (λk=>(intOf k).toNat)
 case atStart=>exact⟨S.length-1,by rw[show((S.length-1:cd):cj)=(S.length:cj)-1 by omega],by omega,by omega⟩
 case round=>
  obtain⟨i,rfl,rr,A⟩:=hrel;have rL:(i:cj)<(S.length:cj):=by omega
  obtain⟨y,d⟩:∃y,S[i]?=qt y:=⟨_,am A⟩
  have k0:=o.out i y d 0 _ rfl;have k1:=u.out i y d 0 _ rfl;rw[kO,Nat.mul_one] at k0 k1;rcases v.out i y rr d with⟨rfl,rfl,ht⟩|⟨rN,ht⟩
  ·clear v o u d
   go_wp2;go_ret;exact⟨rfl,rfl⟩
  ·clear v o u d
   go_wp2
   go_round
   case rel=>exact⟨i-1,by rw[show((i-1:cd):cj)=(i:cj)-1 by omega],by omega,by omega⟩
   case measure=>simp[intOf];omega
theorem nW {m:cd}{p:Pg}{L:cd}{X:Fx}{V:bm Ty}{I:bm eX}{S:bm (aw×cd)}{O:cd->Prop}{s:Sl}(v:cd)(y:Ty)(d:V[v]?=qt y)(w:World)(h:Mk m p L X V I S O s w):
  zP 219 #[rb (qt ⟨m,0,qu⟩),Z U (v:cj)] w (rh #[re y.1,qT y.2]):=by
 obtain⟨N,o⟩:=zE w.heap.size;obtain⟨u,q⟩:=zE (w.alloc (rj #[re qS,qT ⟨#[]⟩] 32));have A:=gQ q o;have D:u.heap[N]?=qt (rj #[re qS,qT ⟨#[]⟩] 32 (0,0)):=by rw[<-q,<-o];exact alloc_at _ _
 have f:Mk m p L X V I S O s u:=h.grow (by rw[o];exact A);have K:V≠[]:=by intro e;rw[e] at d;simp at d
 have rr:v<V.length:=(bl.1 d).1;have rv:(v:cj)<(V.length:cj):=by omega
 obtain⟨b,R,J,hb,G⟩:=dI (cells:=λt:Ty=>#[re t.1,qT t.2,Z U 0]) (m:=3) (λ_=>rfl) f.vars rfl K;have c6:u.cell? ⟨m,6,qu⟩=qt (ra (qt ⟨b,R,qu⟩) V.length s.vC):=by rw[<-J];exact(rowAt f.row 6 rfl).1
 have hm:=aa f.row;have rx:=f.lV;have k0:=G v y d 0 _ rfl;have k1:=G v y d 1 _ rfl;rw[kO] at k0;obtain⟨⟨t0,t1⟩,⟨q0,q1⟩,rB⟩:=bL D;have rl:=zH q;have rm:=zH A;have rn:=zH D;clear h q A D f G J d;go_enter func219,ntmps219
 go_upto_region 1 with(fail)
 rw[rl.out];go_wp2;(try simp only[cL,Exit.then]);refine da (dv (P:=ac) rfl _ _ N 32 _ (0,0) _ rfl (bf rn.out) dr rfl (by kernel_rfl)) rfl ?_;(try rw[o]);exact⟨rfl,(rm.out.setCell (by show N<=N;omega) _).setCell (by show N<=N;omega) _⟩
def xH (x:cj)(V:bm Ty):cj:=if 0<=x then x else V.length
def BA (x:cj)(V:bm Ty)(y:Ty):bm Ty:=if 0<=x then V else V++[y]
theorem Mk.same {m:cd}{p:Pg}{L:cd}{X:Fx}{V:bm Ty}{I:bm eX}{S:bm (aw×cd)}{O:cd->Prop}{s:Sl}{w w':World}(h:Mk m p L X V I S O s w)(d:aq w.heap.size w w'):bT m p L X V I S O w w':=
 ⟨O,s,h.grow d,(Ext.of_below_size (M:=λ_=>jp) d).mono (λ_ h=>h.elim),λ_ h=> .inl h⟩
theorem bT.below {m:cd}{p:Pg}{L:cd}{X:Fx}{V:bm Ty}{I:bm eX}{S:bm (aw×cd)}{O:cd->Prop}{w w1 w2:World}(d:aq w.heap.size w w1)(h:bT m p L X V I S O w1 w2):bT m p L X V I S O w w2:=
 bT.trans ((Ext.of_below_size (M:=λ_=>jp) d).mono (λ_ h=>h.elim)) (λ_ h=> .inl h) h
theorem pu {m:cd}{p:Pg}{L:cd}{X:Fx}{V:bm Ty}{I:bm eX}{S:bm (aw×cd)}{O:cd->Prop}{s:Sl}(x:cj)(y:Ty)(w:World)(h:Mk m p L X V I S O s w)(J:V.length+1<=1000):
  ft ac 246 #[rb (qt ⟨m,0,qu⟩),Z U x,rh #[re y.1,qT y.2]] w λe w'=>e= rk (Z U (xH x V))/\bT m p L X (BA x V y) I S O w w':=by
 obtain⟨N,d⟩:=zE w.heap.size;obtain⟨f,o⟩:=zE (w.alloc (rj #[re y.1,qT y.2] 32));have q:=gQ o d;have v:f.heap[N]?=qt (rj #[re y.1,qT y.2] 32 (0,0)):=by rw[<-o,<-d];exact alloc_at _ _
 have A:Mk m p L X V I S O s f:=h.grow (by rw[d];exact q);have K:=zH (kX y f A J);have R:ca (bT m p L X V I S O w f):=h.same (by rw[d];exact q);have rl:ca (aq w.heap.size w f):=by rw[d];exact q
 obtain⟨⟨t0,t1⟩,⟨q0,q1⟩,rn⟩:=bL v;have D:=zH o;unfold xH BA;clear h o q v A
 by_cases u:0<=x
 ·rw[cI u,cI u]
  go_enter func246,ntmps246
  go_upto_region 1 with(fail)
  rw[D.out];go_wp2;go_ret;exact⟨rfl,R.out⟩
 ·rw[cw u,cw u]
  have rr:x<0:=by omega
  go_enter func246,ntmps246
  go_upto_region 1 with(fail)
  rw[D.out]
  go_wp2_with (go_at_call 131;refine K.out.mono ?_;rintro e w2 ⟨rfl,G⟩;have rm:=zH (G.below rl.out);clear G)
  go_ret;exact⟨rfl,rm.out⟩
end Go.Proofs.YtjomgckjhcfbgaaGreat
