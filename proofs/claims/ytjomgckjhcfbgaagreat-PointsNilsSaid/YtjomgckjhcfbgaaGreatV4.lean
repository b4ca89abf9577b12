/- Walks. -/
import Derived.Test.YtjomgckjhcfbgaaGreatV3
set_option maxRecDepth 100000
set_option maxHeartbeats 64000000
set_option linter.all false
namespace Go.Proofs.YtjomgckjhcfbgaaGreat
open Go.RowKit
open Go.Proofs.Tryz renaming prog→ac,underlying32→dg,underlying88→fc,underlying113→la,underlying40→nl
open Go.RowKit.Below renaming refl→an,heap_alloc→bt
open _root_ renaming ByteArray→ap,List→bh,Nat→bw,Int→ct,if_neg→cy,Array→cC,if_pos→cQ,Option→dr,congrArg→dy,False→fW,absurd→gC,Bool→iv,beq_self_eq_true→m8
open Go renaming heap_setCell_same→aq,Value→bo,run_storeCells_new→cf,cell_of_row→ci,storeCells→cM,bodyPost_ret→cP,results_cell_row→cV,maxLen→cX,Calls→et,heap_alloc2_old→eA,wpQuiet_nil→eC,TypeId→eJ,beq_toListBytes→fR,heap_alloc2_new→gx,info_parts→iu
open Go.RowKit renaming Below→bj,Hid→cr
open Go.Value renaming slice→bk,oneCell'→bp,string→oe,slice→ot,pointer→ox,bool→oy,agg→oA,int→Z
open _root_.Nat renaming le_refl→bl,lt_of_lt_of_le→cg,le_trans→cv,zero_add→cJ,zero_le→da,add_zero→ix,le_of_lt→li,succ_mul→mw,eq_zero_or_pos→my
open _root_.List renaming getElem?_eq_some_iff→ca,getElem?_eq_getElem→ce,length_append→cm,mem_of_getElem?→cA,flatMap_cons→cY,flatMap_append→dk,length_cons→du,drop_eq_getElem_cons→ep,nil_append→ev,getElem?_append_right→eI,mem_cons→eR,mem_flatMap→gw,length_take→lp,getElem?_append_left→mp,getElem?_take→m5
open Go.Exit renaming inBlock→cD
open Go.Addr renaming add_lit→cI
open _root_.Option.some renaming inj→cN,injEq→fa
open _root_.Prod renaming snd→km
open Go.Addr.mk renaming injEq→nF
open _root_.Option renaming some→oa,none→ob
open _root_.Bool renaming true→oc,false→od
open Go.Obj renaming cells→oB
open Go.Ending renaming returned→oE
open Go.IntKind renaming i64→U
open Tryz
theorem jU {c:bw}{p:Pg}{L:bw}{f0 f1 f2 f3 f4 f5 f6:bo}{sA:dr Addr}{sC:bw}{S:bh Fd}(b:ct)(R:b=8\/b=9)(f:iv)(ts g:ap)(j:dr Addr)(a o:bw)(q u:ct)(w:World)(h:Ck c p L f0 f1 f2 f3 f4 f5 f6 sA sC S w)
  (G:∀W,bj w.heap.size w W->et ac 268 #[ox (oa ⟨c,0,ob⟩),oA #[Z U b,oy f,oe ts,oe g,ot j a o,ot ob 0 0,ot ob 0 0,Z U q,Z U u]] W λa w'=>a= oE (.tuple #[])/\bj W.heap.size W w'):
  et ac 244 #[ox (oa ⟨c,0,ob⟩),oA #[Z U b,oy f,oe ts,oe g,ot j a o,ot ob 0 0,ot ob 0 0,Z U q,Z U u]] w λa w'=>a= oE (.tuple #[])/\bj w.heap.size w w':=by
 obtain⟨N,d⟩:=zE w.heap.size;obtain⟨v,y⟩:=zE (w.alloc (oB #[Z U b,oy f,oe ts,oe g,ot j a o,ot ob 0 0,ot ob 0 0,Z U q,Z U u] 282));have A:=gq y d;have D:v.heap[N]?=oa (oB #[Z U b,oy f,oe ts,oe g,ot j a o,ot ob 0 0,ot ob 0 0,Z U q,Z U u] 282 (0,0)):=by rw[<-y,<-d];exact alloc_at _ _
 have Y:=aa D;have J:=h.grow (by rw[d];exact A);have oR:=zH (bI v J);have oS:=zH (G v (by rw[d];exact A));obtain⟨⟨a0,a1,a2,a3,a4,a5,a6,a7,a8⟩,_,pb⟩:=dA D;have oT:=zH y;have oX:=zH A;clear h G y A D J;rcases R with rfl|rfl<;>(
  go_enter func244,ntmps244
  go_upto_region 1 with(fail)
  rw[oT.out]
  go_wp2_with (first
   |(go_at_call 178;refine oR.out.mono ?_;rintro e v ⟨rfl,rfl⟩)
   |(go_at_call 268;refine oS.out.mono ?_;rintro e w2 ⟨rfl,K⟩;have oY:=zH K;clear K))
  go_end0
  exact⟨rfl,by(try rw[d]);exact oX.out.trans (oY.out.mono (li Y))⟩)
theorem mY {α:Type}{f:α->bh bo}{m:bw}(a:0<m)(hf:∀x,(f x).length=m):∀(l:bh α)(j:bw)(u:bo),(l.flatMap f)[j]?=oa u->∃k q x,l[k]?=oa x/\(f x)[q]?=oa u/\j=k*m+q
 |[],j,u,h=>by simp at h
 |y::l,j,u,h=>by
  rw[cY] at h
  by_cases b:j<m
  ·rw[mp (by rw[hf];exact b)] at h
   exact⟨0,j,y,rfl,h,by omega⟩
  ·rw[eI (by rw[hf];omega),hf] at h
   obtain⟨k,q,x,d,g,o⟩:=mY a hf l (j-m) u h;exact⟨k+1,q,x,by simpa using d,g,by rw[mw];omega⟩
theorem jd {α:Type}{f:α->bh bo}{m:bw}(hf:∀x,(f x).length=m):∀l:bh α,(l.flatMap f).length=l.length*m
 |[]=>by simp
 |y::l=>by rw[cY,cm,hf,jd hf l,du,mw,Nat.add_comm]
theorem uZ (S:bh Fd):∀u∈S.flatMap oM,u.oneCell'=oc:=by
 intro u a;obtain⟨f,_,hf⟩:=gw.1 a
 revert hf;unfold oM Fd.cells
 simp;rintro(rfl|rfl|rfl|rfl|rfl)<;>rfl
def xm (c:bw)(p:Pg)(L:bw)(f0 f1 f2 f3 f4 f5 f6:bo)(S:bh Fd)(w w':World):Prop:=∃sA sC,Ck c p L f0 f1 f2 f3 f4 f5 f6 sA sC S w'/\Ext (·=c) w w'
theorem je {W:World}{g:bw}{a b d f h j o q v K y A D G J u:bo}{t:eJ}(N:W.heap[g]?=oa (oB #[a,b,d,f,h,j,o,q,v,K,y,A,D,G,J] t (0,0))):
  (W.setCell ⟨g,9,ob⟩ u).heap[g]?=oa (oB #[a,b,d,f,h,j,o,q,v,u,y,A,D,G,J] t (0,0)):=aq _ g 9 _ _ u N
theorem sW {c:bw}{p:Pg}{L:bw}{f0 f1 f2 f3 f4 f5 f6:bo}{y:Ty}{sA:dr Addr}{sC:bw}{S:bh Fd}{e:Ex}{g cp:bw}(A:ap)(ln cl:ct)(w:World)(h:Ck c p L f0 f1 f2 f3 f4 f5 f6 sA sC S w)(hy:yu p S e y)(sy:y=(oc,p.snm))(sB:gN S A=ob)(vh:S.length<=900000)(hg:xk w g e):
  et ac 244 #[ox (oa ⟨c,0,ob⟩),oA #[Z U 1,oy y.1,oe y.2,oe A,ot (oa ⟨g,0,ob⟩) 1 cp,ot ob 0 0,ot ob 0 0,Z U ln,Z U cl]] w λen w'=>en= oE (.tuple #[])/\xm c p L f0 f1 f2 f3 f4 f5 f6 (S++[⟨A,y.1,y.2,0,0⟩]) w w':=by
 obtain⟨N,hN⟩:=zE w.heap.size;obtain⟨J,re⟩:=zE (w.alloc (oB #[Z U 1,oy y.1,oe y.2,oe A,ot (oa ⟨g,0,ob⟩) 1 cp,ot ob 0 0,ot ob 0 0,Z U ln,Z U cl] 282));have rh:=gq re hN;have rj:J.heap[N]?=oa (oB #[Z U 1,oy y.1,oe y.2,oe A,ot (oa ⟨g,0,ob⟩) 1 cp,ot ob 0 0,ot ob 0 0,Z U ln,Z U cl] 282 (0,0)):=by rw[<-re,<-hN];exact alloc_at _ _
 have pl:=aa rj;have h1:=h.grow (by rw[hN];exact rh);have rB:=hg.grow (by rw[hN];exact rh);have vi:=rB.1;have vj:c<N:=by rw[<-hN];exact aa h.row
 have tB:=zH (bI J h1);have hst:∀(w:World)(c:cC bo),c.size=2->(cM ⟨w.heap.size,0,ob⟩ [oy y.1,oe y.2] 0).run ac (w.alloc (oB c 32))= .ok () (w.alloc (oB #[oy y.1,oe y.2] 32)):=λw c hc=>
  cf (P:=ac) w 32 c #[oy y.1,oe y.2] (by show _=oa 2;kernel_rfl) hc (by simp[bp])
 have sE:∀(w:World)(c:cC bo),c.size=2->(cM ⟨w.heap.size,0,ob⟩ [oy od,oe ⟨#[]⟩] 0).run ac (w.alloc (oB c 32))= .ok () (w.alloc (oB #[oy od,oe ⟨#[]⟩] 32)):=λw c hc=>
  cf (P:=ac) w 32 c #[oy od,oe ⟨#[]⟩] (by show _=oa 2;kernel_rfl) hc (by simp[bp])
 have tD:=zH hst;have tE:=zH sE;have tG:cr (∀q:BW J,zP 213 #[ox (oa ⟨c,0,ob⟩),oA #[oy y.1,oe y.2]] q.w (oy oc)):=λq=>by
  rw[sy];exact lC p.snm q.w (h1.grow q.h) rfl
 have tM:cr (∀q:BW J,zP 176 #[ox (oa ⟨c,0,ob⟩),oy oc,Z U 5,oA #[Z U ln,Z U cl]] q.w (oy oc)):=λq=>aU 5 ln cl q.w (h1.grow q.h);have rI:∀W,bj J.heap.size J W->et ac 265 #[ox (oa ⟨c,0,ob⟩),oA e.cells] W λen w'=>en= oE (oA #[oy y.1,oe y.2])/\bj W.heap.size W w':=λW hW=>jT W (h1.grow hW) hy;unfold Ex.cells at rI;have tP:=zH rI;have tR:cr (∀W,bj J.heap.size J W->zP 214 #[ox (oa ⟨c,0,ob⟩),oe A] W (.tuple #[oA #[oy od,oe ⟨#[]⟩],oy od])):=λW hW=>by
  have:=gZ A W (h1.grow hW);unfold kM at this;rw[sB] at this;exact this
 have sL:cr (∀f a b W,bj J.heap.size J W->zP 176 #[ox (oa ⟨c,0,ob⟩),oy oc,Z U f,oA #[Z U a,Z U b]] W (oy oc)):=λf a b W hW=>aU f a b W (h1.grow hW);obtain⟨⟨a0,a1,a2,a3,a4,a5,a6,a7,a8⟩,_,vm⟩:=dA rj;have H1:=zH h1;have sR:=zH rB;have tS:=zH re;have rK:=zH rh;have pm:=zH rj;have rL:=h.hc;obtain⟨i0,pN,pP,pS,pT⟩:=iu wJ;clear h hy sy sB hg re rh rj h1 rB hst sE rI;go_enter func244,ntmps244
 go_upto_region 1 with(fail)
 rw[tS.out]
 go_upto_region 5 with(go_at_call 178;refine tB.out.mono ?_;rintro e J ⟨rfl,rfl⟩)
 clear a0 a1 a2 a3 a4 a5 a6 a7 a8;have x1:∀q:BW J,q.w.cell? ⟨N,1,ob⟩=oa (oy y.1):=λq=>(rowAt ((q.h.block N pl).trans pm.out) 1 rfl).1;have x2:∀q:BW J,q.w.cell? ⟨N,2,ob⟩=oa (oe y.2):=λq=>(rowAt ((q.h.block N pl).trans pm.out) 2 rfl).1;have x7:∀q:BW J,q.w.cell? ⟨N,7,ob⟩=oa (Z U ln):=λq=>(rowAt ((q.h.block N pl).trans pm.out) 7 rfl).1;have x8:∀q:BW J,q.w.cell? ⟨N,8,ob⟩=oa (Z U cl):=λq=>(rowAt ((q.h.block N pl).trans pm.out) 8 rfl).1
 go_cut [3] (λs wc=>s= ox (oa ⟨N,0,ob⟩)/\bj J.heap.size J wc)
 case first=>
  refine zQ ?_
  repeat (go_big_quiet_step (first
   |(go_at_call 213;exact bn (tG.out _))
   |(go_at_call 176;exact bn (tM.out _))))
  refine eC ?_;rintro _ ⟨q,rfl⟩;have o:=q.h;go_wp2
  go_meet
  case rel=>exact⟨rfl,o⟩
 case rest=>
  obtain⟨rfl,oR⟩:=hcut;clear x1 x2 x7 x8;have pj:=sR.out.grow oR;have sT:=(oR.block N pl).trans pm.out;obtain⟨⟨a0,a1,a2,a3,a4,a5,a6,a7,a8⟩,_,vn⟩:=dA sT;have e0:=pj.2 0 _ rfl;have e1:=pj.2 1 _ rfl;have e2:=pj.2 2 _ rfl;have e3:=pj.2 3 _ rfl;have e4:=pj.2 4 _ rfl;have e5:=pj.2 5 _ rfl;have e6:=pj.2 6 _ rfl;have vp:=pj.1;have tU:=zH (tP.out wc oR);have sX:=zH oR;clear pj sT oR
  go_upto_region 7 with(go_at_call 265;refine tU.out.mono ?_;rintro en w5 ⟨rfl,sY⟩;have tW:=zH (sX.out.trans (sY.mono sX.out.size));have ua:=tD.out w5;clear sY)
  clear ua;obtain⟨T,hT⟩:=zE w5.heap.size;obtain⟨W6,rk⟩:=zE (w5.alloc (oB #[oy y.1,oe y.2] 32));rw[hT,rk];have pZ:=zD rk tW;have rl:W6.heap[T]?=oa (oB #[oy y.1,oe y.2] 32 (0,0)):=by rw[<-rk,<-hT];exact alloc_at _ _
  have ta:=aa rl;have rN:=sR.out.grow pZ;have qe:=(pZ.block N pl).trans pm.out;have rm:=aa qe;have t0:∀q:BW W6,q.w.cell? ⟨T,0,ob⟩=oa (oy y.1):=λq=>(rowAt ((q.h.block T ta).trans rl) 0 rfl).1;have t1:∀q:BW W6,q.w.cell? ⟨T,1,ob⟩=oa (oe y.2):=λq=>(rowAt ((q.h.block T ta).trans rl) 1 rfl).1;have x1:∀q:BW W6,q.w.cell? ⟨N,1,ob⟩=oa (oy y.1):=λq=>(rowAt ((q.h.block N rm).trans qe) 1 rfl).1;have x2:∀q:BW W6,q.w.cell? ⟨N,2,ob⟩=oa (oe y.2):=λq=>(rowAt ((q.h.block N rm).trans qe) 2 rfl).1;have x4:∀q:BW W6,q.w.cell? ⟨N,4,ob⟩=oa (ot (oa ⟨g,0,ob⟩) 1 cp):=λq=>(rowAt ((q.h.block N rm).trans qe) 4 rfl).1;have g5:∀q:BW W6,q.w.cell? ⟨g,5,ob⟩=oa (Z U e.ln):=λq=>(rN.grow q.h).2 5 _ rfl;have g6:∀q:BW W6,q.w.cell? ⟨g,6,ob⟩=oa (Z U e.cl):=λq=>(rN.grow q.h).2 6 _ rfl;have ub:cr (∀q:BW W6,zP 176 #[ox (oa ⟨c,0,ob⟩),oy oc,Z U 7,oA #[Z U e.ln,Z U e.cl]] q.w (oy oc)):=λq=>sL.out 7 e.ln e.cl q.w (pZ.trans (q.h.mono pZ.size));have tc:=zH pZ;have uc:=zH qe;clear hT rk pZ rl rN qe a0 a1 a2 a3 a4 a5 a6 a7 a8 e0 e1 e2 e3 e4 e5 e6
  go_cut [3] (λs wd=>s= ox (oa ⟨N,0,ob⟩)/\bj W6.heap.size W6 wd)
  case first=>
   refine zQ ?_
   repeat (go_big_quiet_step (first
    |(go_at_call 266;exact bn (lw _ _ _))
    |(go_at_call 176;exact bn (ub.out _))))
   refine eC ?_;rintro _ ⟨q,rfl⟩;have o:=q.h;clear t0 t1 x1 x2 x4 g5 g6;go_wp2
   go_meet
   case rel=>exact⟨rfl,o⟩
  case rest=>
   clear t0 t1 x1 x2 x4 g5 g6;obtain⟨rfl,rS⟩:=hcut;have se:=tc.out.trans (rS.mono tc.out.size);have sf:=(rS.block N rm).trans uc.out;obtain⟨⟨a0,a1,a2,a3,a4,a5,a6,a7,a8⟩,_,vq⟩:=dA sf;have ud:=zH (tR.out _ se);have te:=zH se;have vr:=zH sf;clear rS se sf
   go_upto_region 9 with(go_at_call 214;refine ud.out.mono ?_;rintro en w7 ⟨rfl,tf⟩;have ue:=zH (te.out.trans (tf.mono te.out.size));have ur:=tE.out w7;clear tf)
   clear ur;obtain⟨W8,sg⟩:=zE (w7.alloc (oB #[oy od,oe ⟨#[]⟩] 32));rw[sg];have rn:=zD sg ue;have th:=(rn.block N pl).trans pm.out;obtain⟨⟨a0,a1,a2,a3,a4,a5,a6,a7,a8⟩,_,vt⟩:=dA th;have us:=zH (sL.out 6 ln cl W8 rn);have ti:=zH rn;clear sg rn th
   go_upto_region 10 with(go_at_call 176;refine us.out.mono ?_;rintro en D ⟨rfl,tj⟩;have pn:=zH (ti.out.trans (tj.mono ti.out.size));clear tj)
   have hD:=H1.out.grow pn.out;have sk:=(pn.out.block N pl).trans pm.out;obtain⟨B,hB⟩:=zE D.heap.size;have uv:N<B:=by rw[<-hB];exact aa sk
   have ro:c<B:=by omega
   obtain⟨ST,tl⟩:=zE ((λw'=>bj B D w'):World->Prop);have rr:∀w,ST w↔bj B D w:=λw=>by rw[<-tl]
   have oX:=zH rr;have rv:=zH hD.row;have ux:=zH sk;have tm:=zH hD.seen;have tn:∀w,ST w->w.cell? ⟨c,9,ob⟩=oa (ot sA S.length sC)/\w.cell? ⟨N,3,ob⟩=oa (oe A)/\w.cell? ⟨N,1,ob⟩=oa (oy y.1)/\w.cell? ⟨N,2,ob⟩=oa (oe y.2)/\c<w.heap.size/\w.frozen? ⟨c,9,ob⟩=od:=λw hw=>by
    have hb:=(rr w).1 hw;have r1:=(hb.block c ro).trans rv.out;have r2:=(hb.block N uv).trans ux.out;exact⟨(rowAt r1 9 rfl).1,(rowAt r2 3 rfl).1,(rowAt r2 1 rfl).1,(rowAt r2 2 rfl).1,aa r1,(rowAt r1 9 rfl).2⟩
   have K:=zH tn;obtain⟨wE,sn⟩:=zE D.drew;have va:ST wE:=(rr _).2 (by rw[<-sn,<-hB];exact(an _ _).drew);have HD:=zH hD;have G:=zH hB;clear tl rr tn hD sk hB a0 a1 a2 a3 a4 a5 a6 a7 a8;have qk:cr (∀w,ST w->(sA=ob->S.length=0)/\∀ad,sA=oa ad->∀j u,(S.flatMap oM)[j]?=oa u->w.cell? (ad.add j)=oa u):=λw hw=>by
    have hb:=(oX.out w).1 hw;constructor
    ·intro so
     rcases my S.length with h|h
     ·exact h
     ·obtain⟨b,tp,h1,_⟩:=tm.out (List.length_pos_iff.1 h)
      rw[so] at h1;cases h1
    ·intro ad so j u hu
     have vc:S≠[]:=by intro e;rw[e] at hu;simp at hu
     obtain⟨b,tp,h1,h2,h3⟩:=tm.out vc;rw[so] at h1;obtain rfl:=cN h1;obtain⟨k,q,x,hx,o,rfl⟩:=mY (f:=oM) (m:=5) (by decide) (λ_=>rfl) S j u hu;rw[cI,hb.cell (p:=⟨b,tp+(k*5+q),ob⟩) (by show b<B;rw[<-G.out];exact h2),<-Nat.add_assoc];exact h3 k x hx q u o
   refine ai 16 ST (by kernel_rfl) ?_;rw[sn];clear sn;refine zT 0 rfl K.out ?_
   try go_simp
   refine zT 2 rfl K.out ?_
   try go_simp
   refine zT 3 rfl K.out ?_
   try go_simp
   refine zT 4 rfl K.out ?_
   try go_simp
   refine zT 5 rfl K.out ?_
   try go_simp
   refine zT 7 rfl K.out ?_
   try go_simp
   refine zT 8 rfl K.out ?_
   try go_simp
   refine zT 9 rfl K.out ?_
   try go_simp
   refine zT 10 rfl K.out ?_
   try go_simp
   refine zT 11 rfl K.out ?_
   try go_simp
   have qn:bj B D wE:=(oX.out _).1 va;refine lq (i:=1) (j:=12) (by kernel_rfl) (by decide) (by decide) rfl rfl (λK' d=> ?_) (λK' d=> ?_)
   ·rw[cQ (by rfl)]
    go_simp;obtain⟨Wa,pf⟩:=zE (wE.alloc (oB #[] 92));obtain⟨ba,oY⟩:=zE wE.heap.size;have qq:bj B D Wa:=by rw[<-pf];exact qn.alloc (by have:=qn.size;rw[G.out] at this;exact this) _
    have pk:=qq;have pD:ST Wa:=(oX.out _).2 qq;have sq:B<=ba:=by rw[<-oY];have:=qn.size;rw[G.out] at this;exact this
    have sr:cr (Wa.heap.size=ba+1):=by unfold cr;rw[<-pf];simp[oY]
    have rx:Wa.ownsRow B 92 5 (ot (oa ⟨ba,0,ob⟩) 0 0) 0 []:=by rw[<-pf,<-oY];exact gu _ _ _ _ (by rw[oY];exact sq)
    try rw[pf]
    try rw[oY]
    refine d _ _ pD ?_;clear d
    try go_simp
    refine lq (i:=6) (j:=12) (by kernel_rfl) (by decide) (by decide) rfl rfl (λK' d=> ?_) (λK' d=> ?_)
    ·rw[cQ (by rfl)]
     refine ay (.tmp 64) (.tmp 68) 88 rfl B 92 i0 _ 5 56 fc pN pP pS pT rfl (by decide) (ot (oa ⟨ba,0,ob⟩) 0 0) 0 [] rfl rx sA S.length sC (S.flatMap oM) rfl (jd (f:=oM) (λ_=>rfl) S) (qk.out _ pD).1 (qk.out _ pD).2 (uZ S) (by unfold cX;omega) (by omega) (by have:=pk.size;rw[G.out] at this;exact this) ?_;intro vb Wb ph pH tr;have po:bj B D Wb:=pk.trans ((Ext.of_grown (M:=λq=>oa ba=oa q) pH (λq o=> .inl o)).below (by have:=pk.size;rw[G.out] at this;exact this) (λq o=>by have:=cN o;omega));have pi:=po;have qr:ST Wb:=(oX.out _).2 po;rw[cJ,ev] at ph;refine d _ _ qr ?_;clear d
     try go_simp
     refine zO 12 rfl λK' d=> ?_;go_simp;obtain⟨R,oS⟩:=zE (Wb.alloc (oB #[oe A,oy y.1,oe y.2,Z U 0,Z U 0] 92));obtain⟨Y,oR⟩:=zE Wb.heap.size;have pp:bj B D R:=by rw[<-oS];exact pi.alloc (by have:=pi.size;rw[G.out] at this;exact this) _
     have pb:=pp;have pL:ST R:=(oX.out _).2 pp;have qs:cr (R.heap.size=Y+1):=by unfold cr;rw[<-oS];simp[oR]
     have qt:R.heap[Y]?=oa (oB #[oe A,oy y.1,oe y.2,Z U 0,Z U 0] 92 (0,0)):=by rw[<-oS,<-oR];exact alloc_at _ _
     try rw[oS]
     try rw[oR]
     refine d _ _ pL ?_;clear d
     try go_simp
     have tt:R.ownsRow B 92 5 vb S.length (S.flatMap oM):=by rw[<-oS];exact ownsRow_below ph ((an _ _).alloc (bl _) _)
     refine zO 13 rfl λK' d=> ?_;refine ay (.tmp 69) (.tmp 75) 88 rfl B 92 i0 _ 5 56 fc pN pP pS pT rfl (by decide) vb S.length (S.flatMap oM) rfl tt (oa ⟨Y,0,ob⟩) 1 1 [oe A,oy y.1,oe y.2,Z U 0,Z U 0] rfl rfl (λh=>by cases h) (λad qu jj uu hu=>by
      obtain rfl:(⟨Y,0,ob⟩:Addr)=ad:=by simpa using qu
      rw[cI,cJ,ci _ _ _ _ _ _ qt];simpa using hu) (by simp[bp]) (by unfold cX;omega) (by omega) (by have:=pb.size;rw[G.out] at this;exact this) ?_
     intro vz v pw qv tv;obtain⟨gz,cz,qS,tz,tA⟩:=dn pw;subst qS;have oT:bj B D v:=pb.trans ((Ext.of_grown (M:=λq=>vb.ownBlock=oa q) qv (λq o=> .inl o)).below (by have:=pb.size;rw[G.out] at this;exact this) (λq o=>(ah tt o).1));have px:ST v:=(oX.out _).2 oT;refine d _ _ px ?_;clear d
     try go_simp
     refine zT 14 rfl K.out ?_
     try go_simp
     refine zT 15 rfl K.out ?_
     try go_simp
     obtain⟨s1,s2,s3,s4,s5,s6⟩:=K.out v px;refine zK rfl λK' d=> ?_;go_simp;refine d _ _ ?_;clear d;refine⟨by kernel_rfl, ?_⟩;have qT:=(oT.block c ro).trans rv.out;have py:xm c p L f0 f1 f2 f3 f4 f5 f6 (S++[⟨A,y.1,y.2,0,0⟩]) w (v.setCell ⟨c,9,ob⟩ (ot (oa ⟨gz,0,ob⟩) (S.length+1) cz)):=by
      have pc:Ext (·=c) v (v.setCell ⟨c,9,ob⟩ (ot (oa ⟨gz,0,ob⟩) (S.length+1) cz)):=Ext.set1 v c 9 _;have pd:(S++[(⟨A,y.1,y.2,0,0⟩:Fd)]).length=S.length+1:=by rw[cm];rfl
      have ra:=(HD.out.pg.ext (Ext.of_below_size (M:=λ_=>fW) (show bj D.heap.size D v by rw[G.out];exact oT)) (λ_ _ h=>h)).ext pc (λk hk e=>by omega);have pB:v.ownsRow B 92 5 (ot (oa ⟨gz,0,ob⟩) (S.length+1) cz) (S.length+1) ((S++[(⟨A,y.1,y.2,0,0⟩:Fd)]).flatMap oM):=by rw[dk];exact pw
      have rb:=af pB pc (λq o e=>by have:=(ah pB o).1;omega);refine⟨oa ⟨gz,0,ob⟩,cz,⟨?_,ra,rL, ?_,by rw[pd];omega, ?_⟩, ?_⟩
      ·rw[pd];exact je qT
      ·exact bV (cells:=Fd.cells) (m:=5) (λ_=>rfl) rb pd.symm
      ·intro a _ ha e
       obtain rfl:=cN ha;have:gz=c:=e;omega
      ·exact((Ext.of_below_size (M:=(·=c)) (show bj w.heap.size w J by rw[hN];exact rK.out)).trans (Ext.of_below_size (M:=(·=c)) (pn.out.trans ((show bj D.heap.size D v by rw[G.out];exact oT).mono pn.out.size))) (λk hk=> .inl hk)).trans pc (λk hk=> .inl hk)
     have rc:=zH py;clear py;go_wp2
     go_end0
     exact⟨rfl,rc.out⟩
    ·rw[cQ (by rfl)]
     go_simp;obtain⟨R,oS⟩:=zE (Wa.alloc (oB #[oe A,oy y.1,oe y.2,Z U 0,Z U 0] 92));obtain⟨Y,oR⟩:=zE Wa.heap.size;have pp:bj B D R:=by rw[<-oS];exact pk.alloc (by have:=pk.size;rw[G.out] at this;exact this) _
     have pb:=pp;have pL:ST R:=(oX.out _).2 pp;have qs:cr (R.heap.size=Y+1):=by unfold cr;rw[<-oS];simp[oR]
     have qt:R.heap[Y]?=oa (oB #[oe A,oy y.1,oe y.2,Z U 0,Z U 0] 92 (0,0)):=by rw[<-oS,<-oR];exact alloc_at _ _
     try rw[oS]
     try rw[oR]
     refine d _ _ pL ?_;clear d
     try go_simp
     have vd:R.ownsRow B 92 5 (ot (oa ⟨ba,0,ob⟩) 0 0) 0 []:=by rw[<-oS];exact ownsRow_below rx ((an _ _).alloc (bl _) _)
     refine zO 6 rfl λK' d=> ?_;refine ay (.tmp 64) (.tmp 68) 88 rfl B 92 i0 _ 5 56 fc pN pP pS pT rfl (by decide) (ot (oa ⟨ba,0,ob⟩) 0 0) 0 [] rfl vd sA S.length sC (S.flatMap oM) rfl (jd (f:=oM) (λ_=>rfl) S) (qk.out _ pL).1 (qk.out _ pL).2 (uZ S) (by unfold cX;omega) (by omega) (by have:=pb.size;rw[G.out] at this;exact this) ?_;intro vb Wb ph pH tr;have po:bj B D Wb:=pb.trans ((Ext.of_grown (M:=λq=>oa ba=oa q) pH (λq o=> .inl o)).below (by have:=pb.size;rw[G.out] at this;exact this) (λq o=>by have:=cN o;omega));have pi:=po;have qr:ST Wb:=(oX.out _).2 po;rw[cJ,ev] at ph;refine d _ _ qr ?_;clear d
     try go_simp
     have sx:Wb.heap[Y]?=oa (oB #[oe A,oy y.1,oe y.2,Z U 0,Z U 0] 92 (0,0)):=(Ext.of_grown (M:=λq=>oa ba=oa q) pH (λq o=> .inl o)).heap qt (by intro h;have:=cN h;have:=sr.out;have:=qs.out;omega);refine zO 13 rfl λK' d=> ?_;refine ay (.tmp 69) (.tmp 75) 88 rfl B 92 i0 _ 5 56 fc pN pP pS pT rfl (by decide) vb S.length (S.flatMap oM) rfl ph (oa ⟨Y,0,ob⟩) 1 1 [oe A,oy y.1,oe y.2,Z U 0,Z U 0] rfl rfl (λh=>by cases h) (λad qu jj uu hu=>by
      obtain rfl:(⟨Y,0,ob⟩:Addr)=ad:=by simpa using qu
      rw[cI,cJ,ci _ _ _ _ _ _ sx];simpa using hu) (by simp[bp]) (by unfold cX;omega) (by omega) (by have:=pi.size;rw[G.out] at this;exact this) ?_
     intro vz v pw qv tv;obtain⟨gz,cz,qS,tz,tA⟩:=dn pw;subst qS;have oT:bj B D v:=pi.trans ((Ext.of_grown (M:=λq=>vb.ownBlock=oa q) qv (λq o=> .inl o)).below (by have:=pi.size;rw[G.out] at this;exact this) (λq o=>(ah ph o).1));have px:ST v:=(oX.out _).2 oT;refine d _ _ px ?_;clear d
     try go_simp
     refine zT 14 rfl K.out ?_
     try go_simp
     refine zT 15 rfl K.out ?_
     try go_simp
     obtain⟨s1,s2,s3,s4,s5,s6⟩:=K.out v px;refine zK rfl λK' d=> ?_;go_simp;refine d _ _ ?_;clear d;refine⟨by kernel_rfl, ?_⟩;have qT:=(oT.block c ro).trans rv.out;have py:xm c p L f0 f1 f2 f3 f4 f5 f6 (S++[⟨A,y.1,y.2,0,0⟩]) w (v.setCell ⟨c,9,ob⟩ (ot (oa ⟨gz,0,ob⟩) (S.length+1) cz)):=by
      have pc:Ext (·=c) v (v.setCell ⟨c,9,ob⟩ (ot (oa ⟨gz,0,ob⟩) (S.length+1) cz)):=Ext.set1 v c 9 _;have pd:(S++[(⟨A,y.1,y.2,0,0⟩:Fd)]).length=S.length+1:=by rw[cm];rfl
      have ra:=(HD.out.pg.ext (Ext.of_below_size (M:=λ_=>fW) (show bj D.heap.size D v by rw[G.out];exact oT)) (λ_ _ h=>h)).ext pc (λk hk e=>by omega);have pB:v.ownsRow B 92 5 (ot (oa ⟨gz,0,ob⟩) (S.length+1) cz) (S.length+1) ((S++[(⟨A,y.1,y.2,0,0⟩:Fd)]).flatMap oM):=by rw[dk];exact pw
      have rb:=af pB pc (λq o e=>by have:=(ah pB o).1;omega);refine⟨oa ⟨gz,0,ob⟩,cz,⟨?_,ra,rL, ?_,by rw[pd];omega, ?_⟩, ?_⟩
      ·rw[pd];exact je qT
      ·exact bV (cells:=Fd.cells) (m:=5) (λ_=>rfl) rb pd.symm
      ·intro a _ ha e
       obtain rfl:=cN ha;have:gz=c:=e;omega
      ·exact((Ext.of_below_size (M:=(·=c)) (show bj w.heap.size w J by rw[hN];exact rK.out)).trans (Ext.of_below_size (M:=(·=c)) (pn.out.trans ((show bj D.heap.size D v by rw[G.out];exact oT).mono pn.out.size))) (λk hk=> .inl hk)).trans pc (λk hk=> .inl hk)
     have rc:=zH py;clear py;go_wp2
     go_end0
     exact⟨rfl,rc.out⟩
   ·rw[cQ (by rfl)]
    go_simp;obtain⟨R,oS⟩:=zE (wE.alloc (oB #[oe A,oy y.1,oe y.2,Z U 0,Z U 0] 92));obtain⟨Y,oR⟩:=zE wE.heap.size;have pp:bj B D R:=by rw[<-oS];exact qn.alloc (by have:=qn.size;rw[G.out] at this;exact this) _
    have pb:=pp;have pL:ST R:=(oX.out _).2 pp;have qs:cr (R.heap.size=Y+1):=by unfold cr;rw[<-oS];simp[oR]
    have qt:R.heap[Y]?=oa (oB #[oe A,oy y.1,oe y.2,Z U 0,Z U 0] 92 (0,0)):=by rw[<-oS,<-oR];exact alloc_at _ _
    try rw[oS]
    try rw[oR]
    refine d _ _ pL ?_;clear d
    try go_simp
    refine zO 1 rfl λK' d=> ?_;go_simp;obtain⟨Wa,pf⟩:=zE (R.alloc (oB #[] 92));obtain⟨ba,oY⟩:=zE R.heap.size;have qq:bj B D Wa:=by rw[<-pf];exact pb.alloc (by have:=pb.size;rw[G.out] at this;exact this) _
    have pk:=qq;have pD:ST Wa:=(oX.out _).2 qq;have sq:B<=ba:=by rw[<-oY];have:=pb.size;rw[G.out] at this;exact this
    have sr:cr (Wa.heap.size=ba+1):=by unfold cr;rw[<-pf];simp[oY]
    have rx:Wa.ownsRow B 92 5 (ot (oa ⟨ba,0,ob⟩) 0 0) 0 []:=by rw[<-pf,<-oY];exact gu _ _ _ _ (by rw[oY];exact sq)
    try rw[pf]
    try rw[oY]
    refine d _ _ pD ?_;clear d
    try go_simp
    have vf:Wa.heap[Y]?=oa (oB #[oe A,oy y.1,oe y.2,Z U 0,Z U 0] 92 (0,0)):=by rw[<-pf];exact(bt _ _ Y (by have:=qs.out;omega)).trans qt
    refine zO 6 rfl λK' d=> ?_;refine ay (.tmp 64) (.tmp 68) 88 rfl B 92 i0 _ 5 56 fc pN pP pS pT rfl (by decide) (ot (oa ⟨ba,0,ob⟩) 0 0) 0 [] rfl rx sA S.length sC (S.flatMap oM) rfl (jd (f:=oM) (λ_=>rfl) S) (qk.out _ pD).1 (qk.out _ pD).2 (uZ S) (by unfold cX;omega) (by omega) (by have:=pk.size;rw[G.out] at this;exact this) ?_;intro vb Wb ph pH tr;have po:bj B D Wb:=pk.trans ((Ext.of_grown (M:=λq=>oa ba=oa q) pH (λq o=> .inl o)).below (by have:=pk.size;rw[G.out] at this;exact this) (λq o=>by have:=cN o;omega));have pi:=po;have qr:ST Wb:=(oX.out _).2 po;rw[cJ,ev] at ph;refine d _ _ qr ?_;clear d
    try go_simp
    have sx:Wb.heap[Y]?=oa (oB #[oe A,oy y.1,oe y.2,Z U 0,Z U 0] 92 (0,0)):=(Ext.of_grown (M:=λq=>oa ba=oa q) pH (λq o=> .inl o)).heap vf (by intro h;have:=cN h;have:=sr.out;have:=qs.out;omega);refine zO 13 rfl λK' d=> ?_;refine ay (.tmp 69) (.tmp 75) 88 rfl B 92 i0 _ 5 56 fc pN pP pS pT rfl (by decide) vb S.length (S.flatMap oM) rfl ph (oa ⟨Y,0,ob⟩) 1 1 [oe A,oy y.1,oe y.2,Z U 0,Z U 0] rfl rfl (λh=>by cases h) (λad qu jj uu hu=>by
     obtain rfl:(⟨Y,0,ob⟩:Addr)=ad:=by simpa using qu
     rw[cI,cJ,ci _ _ _ _ _ _ sx];simpa using hu) (by simp[bp]) (by unfold cX;omega) (by omega) (by have:=pi.size;rw[G.out] at this;exact this) ?_
    intro vz v pw qv tv;obtain⟨gz,cz,qS,tz,tA⟩:=dn pw;subst qS;have oT:bj B D v:=pi.trans ((Ext.of_grown (M:=λq=>vb.ownBlock=oa q) qv (λq o=> .inl o)).below (by have:=pi.size;rw[G.out] at this;exact this) (λq o=>(ah ph o).1));have px:ST v:=(oX.out _).2 oT;refine d _ _ px ?_;clear d
    try go_simp
    refine zT 14 rfl K.out ?_
    try go_simp
    refine zT 15 rfl K.out ?_
    try go_simp
    obtain⟨s1,s2,s3,s4,s5,s6⟩:=K.out v px;refine zK rfl λK' d=> ?_;go_simp;refine d _ _ ?_;clear d;refine⟨by kernel_rfl, ?_⟩;have qT:=(oT.block c ro).trans rv.out;have py:xm c p L f0 f1 f2 f3 f4 f5 f6 (S++[⟨A,y.1,y.2,0,0⟩]) w (v.setCell ⟨c,9,ob⟩ (ot (oa ⟨gz,0,ob⟩) (S.length+1) cz)):=by
     have pc:Ext (·=c) v (v.setCell ⟨c,9,ob⟩ (ot (oa ⟨gz,0,ob⟩) (S.length+1) cz)):=Ext.set1 v c 9 _;have pd:(S++[(⟨A,y.1,y.2,0,0⟩:Fd)]).length=S.length+1:=by rw[cm];rfl
     have ra:=(HD.out.pg.ext (Ext.of_below_size (M:=λ_=>fW) (show bj D.heap.size D v by rw[G.out];exact oT)) (λ_ _ h=>h)).ext pc (λk hk e=>by omega);have pB:v.ownsRow B 92 5 (ot (oa ⟨gz,0,ob⟩) (S.length+1) cz) (S.length+1) ((S++[(⟨A,y.1,y.2,0,0⟩:Fd)]).flatMap oM):=by rw[dk];exact pw
     have rb:=af pB pc (λq o e=>by have:=(ah pB o).1;omega);refine⟨oa ⟨gz,0,ob⟩,cz,⟨?_,ra,rL, ?_,by rw[pd];omega, ?_⟩, ?_⟩
     ·rw[pd];exact je qT
     ·exact bV (cells:=Fd.cells) (m:=5) (λ_=>rfl) rb pd.symm
     ·intro a _ ha e
      obtain rfl:=cN ha;have:gz=c:=e;omega
     ·exact((Ext.of_below_size (M:=(·=c)) (show bj w.heap.size w J by rw[hN];exact rK.out)).trans (Ext.of_below_size (M:=(·=c)) (pn.out.trans ((show bj D.heap.size D v by rw[G.out];exact oT).mono pn.out.size))) (λk hk=> .inl hk)).trans pc (λk hk=> .inl hk)
    have rc:=zH py;clear py;go_wp2
    go_end0
    exact⟨rfl,rc.out⟩
def kN (p:Pg)(y:Ty)(S:bh Fd)(s:Sm)(a:bh Fd):Prop:=
 (s.kind=8/\∃e,s.es=[e]/\yu p S e y/\a=S)\/(s.kind=9/\∃b,gN S s.nm=oa b/\b.ty.1=oc/\a=S)\/
 (s.kind=1/\∃e,s.es=[e]/\yu p S e s.ty/\s.ty=(oc,p.snm)/\gN S s.nm=ob/\a=S++[⟨s.nm,s.ty.1,s.ty.2,0,0⟩])
theorem Ck.mv {c:bw}{p:Pg}{L:bw}{f0 f1 f2 f3 f4 f5 f6:bo}{sA:dr Addr}{sC:bw}{S:bh Fd}{w w':World}(h:Ck c p L f0 f1 f2 f3 f4 f5 f6 sA sC S w)(hb:bj w.heap.size w w'):xm c p L f0 f1 f2 f3 f4 f5 f6 S w w':=
 ⟨sA,sC,h.grow hb,Ext.of_below_size hb⟩
theorem fK.sm {p:Pg}{L:bw}{w:World}(h:fK p L w){s:Sm}(o:s∈p.ss):(∃q n d,s.E= ot q n d)/\∀e,s.es=[e]->∃g d,s.E= ot (oa ⟨g,0,ob⟩) 1 d/\xk w g e:=by
 rcases h.ex s o with⟨a,f⟩|⟨g,cap,a,f,v⟩
 ·exact⟨⟨_,_,_,f⟩,λe b=>by rw[b] at a;cases a⟩
 ·refine⟨⟨_,_,_,a⟩,λe b=>⟨g,cap,by rw[a,b];rfl,cg f h.lo,λj u y=> ?_⟩⟩
  have:=v 0 e (by rw[b];rfl) j u y;simpa using this
theorem rD {c:bw}{p:Pg}{L:bw}{f0 f1 f4 f5 f6:bo}{y:Ty}{sA:dr Addr}{sC:bw}{S D:bh Fd}{s:Sm}(w:World)(h:Ck c p L f0 f1 (oy y.1) (oe y.2) f4 f5 f6 sA sC S w)(K:s∈p.ss)(N:kN p y S s D)(R:S.length<=900000):
  et ac 244 #[ox (oa ⟨c,0,ob⟩),oA s.cells] w λo w'=>o= oE (.tuple #[])/\xm c p L f0 f1 (oy y.1) (oe y.2) f4 f5 f6 D w w':=by
 obtain⟨⟨G,n,a,Y⟩,J⟩:=h.pg.sm K;rcases N with⟨b,e,d,f,rfl⟩|⟨b,fd,d,f,rfl⟩|⟨b,e,d,f,h4,h5,rfl⟩
 ·obtain⟨g,a,q,u⟩:=J e d
  unfold Sm.cells;rw[b,q];refine(jU 8 (.inl rfl) s.ty.1 s.ty.2 s.nm (oa ⟨g,0,ob⟩) 1 a s.ln s.cl w h (λW j=>sV s.ty.1 s.ty.2 s.nm s.ln s.cl W (h.grow j) f (u.grow j))).mono ?_;rintro o w' ⟨v,A⟩;exact⟨v,h.mv A⟩
 ·unfold Sm.cells
  rw[b,Y];refine(jU 9 (.inr rfl) s.ty.1 s.ty.2 s.nm G n a s.ln s.cl w h (λW j=>rC s.ty.1 s.ty.2 s.nm G n a s.ln s.cl W (h.grow j) d f)).mono ?_;rintro o w' ⟨v,A⟩;exact⟨v,h.mv A⟩
 ·obtain⟨g,a,q,u⟩:=J e d
  unfold Sm.cells;rw[b,q];exact sW s.nm s.ln s.cl w h f h4 h5 R u
inductive eO (p:Pg) (y:Ty):bh Fd->bh Sm->Prop
 |nil (S:bh Fd):eO p y S []
 |cons (S S1:bh Fd) (s:Sm) (l:bh Sm):kN p y S s S1->eO p y S1 l->eO p y S (s::l)
theorem kN.kind {p:Pg}{y:Ty}{S a:bh Fd}{s:Sm}(h:kN p y S s a):s.plainK:=by
 rcases h with h|h|h
 ·exact .inr (.inr (.inl h.1))
 ·exact .inr (.inr (.inr h.1))
 ·exact .inl h.1
theorem eO.kinds {p:Pg}{y:Ty}{S:bh Fd}{l:bh Sm}(h:eO p y S l):∀s∈l,s.plainK:=by
 induction h with
 |nil=>simp
 |cons S d s l b _ ih=>intro x a;rcases eR.1 a with rfl|a;exact b.kind;exact ih x a
theorem kN.len {p:Pg}{y:Ty}{S a:bh Fd}{s:Sm}(h:kN p y S s a):a.length<=S.length+1:=by
 rcases h with⟨_,_,_,_,rfl⟩|⟨_,_,_,_,rfl⟩|⟨_,_,_,_,_,_,rfl⟩
 ·omega
 ·omega
 ·rw[cm];simp
def BH (c:bw)(p:Pg)(L:bw)(f0 f1 f4 f5 f6:bo)(y:Ty)(w:World)(k:bo)(wr:World):Prop:=
 ∃(j:bw) (S:bh Fd) (sA:dr Addr) (sC:bw),k= Z U (j:ct)/\j<=p.ss.length/\S.length<=j/\eO p y S (p.ss.drop j)/\Ck c p L f0 f1 (oy y.1) (oe y.2) f4 f5 f6 sA sC S wr/\Ext (·=c) w wr
theorem pE {c:bw}{p:Pg}{L:bw}{f0 f1 f4 f5 f6:bo}{y:Ty}(w:World)(h:Ck c p L f0 f1 (oy y.1) (oe y.2) f4 f5 f6 ob 0 [] w)(R:eO p y [] p.ss)(qe:p.ss.length<=1000)(pb:∀j,j<p.ss.length->(p.ss.take j).any ek=od)(pc:p.ss≠[]):
  et ac 215 #[ox (oa ⟨c,0,ob⟩),ot p.bA p.ss.length p.bC] w λen w'=>en= oE (.tuple #[])/\Ck c p L f0 f1 (oy y.1) (oe y.2) f4 f5 f6 ob 0 [] w'/\Ext (·=c) w w':=by
 obtain⟨b,G,hA,qk,_⟩:=h.pg.st pc;have pn:=h.hc;have po:=aa h.row;have c9:w.cell? ⟨c,9,ob⟩=oa (ot ob 0 0):=(rowAt h.row 9 rfl).1;have H:=zH h;have HA:=zH hA;have pp:=zH pb;have HK:=zH R;have qn:c<w.heap.size:=po;rw[hA];have pw:cr (∀sA sC S W,Ck c p L f0 f1 (oy y.1) (oe y.2) f4 f5 f6 sA sC S W->zS 178 #[ox (oa ⟨c,0,ob⟩)] W (oy od)):=λsA sC S W hW=>bI W hW;have px:cr (∀s∈p.ss,s.plainK):=R.kinds;clear h hA R pb pc;go_enter func215,ntmps215
 go_upto_region 2 with(fail)
 clear c9
 go_loopw [5] (λk wr=>BH c p L f0 f1 f4 f5 f6 y w k wr) (λk _=>p.ss.length-(intOf k).toNat)
 case atStart=>exact⟨0,[],ob,0,rfl,da _,bl _,HK.out,H.out,Ext.refl _ _⟩
 case round=>
  obtain⟨j,S,sA,sC,rfl,hj,qq,oR,v,f⟩:=hrel;have oS:=zH v;have HX:=zH f;have py:=zH (pw.out sA sC S wr v)
  by_cases A:j<p.ss.length
  ·have qr:(j:ct)<(p.ss.length:ct):=by omega
   obtain⟨s,J⟩:∃s,p.ss[j]?=oa s:=⟨_,ce A⟩
   have pd:p.ss.drop j=s::p.ss.drop (j+1):=by
    rw[ep A];have:p.ss[j]=s:=by rw[ce A] at J;exact cN J
    rw[this]
   rw[pd] at oR;cases oR with
   |cons _ S1 _ _ hst pf=>
    have oT:=cA J;obtain⟨⟨ao,n,cp,D⟩,_⟩:=v.pg.sm oT;have K:∀W,bj wr.heap.size wr W->(∀(i:bw)(x:Sm),p.ss[i]?=oa x->∀(k:bw)(u:bo),x.cells.toList[k]?=oa u->W.cell? ⟨b,G+i*9+k,ob⟩=oa u)/\b<W.heap.size:=λW hW=>by
     have ph:=(v.grow hW).pg;obtain⟨b',qs,N,h2,h3⟩:=ph.st (by intro e;rw[e] at A;simp at A);rw[HA.out] at N;simp only[fa,nF,and_true] at N;rw[<-N.1] at h2 h3;rw[<-N.2] at h3;exact⟨h3,cg h2 ph.lo⟩
    have oX:(p.ss.take j).length=j:=by rw[lp];omega
    have pB:cr (∀q:BW wr,zP 216 #[ot (oa ⟨b,G,ob⟩) j p.bC] q.w (oy od)):=λq=>by
     have:=jq b G p.bC (p.ss.take j) (by rw[oX];omega) (λx f=>⟨px.out x (List.mem_of_mem_take f),(v.pg.sm (List.mem_of_mem_take f)).1⟩) q.w (λ_=>(K q.w q.h).2) (λi x f k u hu=>(K q.w q.h).1 i x (by
      have N:=ca.1 f;rw[m5] at f
      split at f
      ·exact f
      ·cases f) k u hu)
     rw[oX,pp.out j A] at this;exact this
    have pD:cr (∀q:BW wr,zP 176 #[ox (oa ⟨c,0,ob⟩),oy oc,Z U 3,oA #[Z U s.ln,Z U s.cl]] q.w (oy oc)):=λq=>aU 3 s.ln s.cl q.w (v.grow q.h);have g:=zH K;have o:=zH J;have pi:=zH hst;have pH:=zH pf;have pL:=zH oT;have HE:=zH D;have qt:b<wr.heap.size:=(K wr (an _ _)).2;have qu:j<=p.bC:=by have:=v.pg.cb;omega
    have qv:(j:ct)<=(p.bC:ct):=by omega
    clear v f J pd hst pf oT D K oX
    go_upto_region 4 with(go_at_call 178;refine py.out.mono ?_;rintro e wr ⟨rfl,rfl⟩)
    have s7:∀q:BW wr,q.w.cell? ⟨b,G+j*9+7,ob⟩=oa (Z U s.ln):=λq=>(g.out q.w q.h).1 j s o.out 7 _ rfl;have s8:∀q:BW wr,q.w.cell? ⟨b,G+j*9+8,ob⟩=oa (Z U s.cl):=λq=>(g.out q.w q.h).1 j s o.out 8 _ rfl
    go_cut [5] (λs wc=>s= Z U (j:ct)/\bj wr.heap.size wr wc)
    case first=>
     refine zQ ?_
     repeat (go_big_quiet_step (first
      |(go_at_call 216;exact bn (pB.out _))
      |(go_at_call 176;exact bn (pD.out _))))
     refine eC ?_;rintro _ ⟨q,rfl⟩;have hq:=q.h;clear s7 s8;go_wp2
     go_meet
     case rel=>exact⟨rfl,hq⟩
    case rest=>
     obtain⟨rfl,d⟩:=hcut;clear s7 s8;have pj:=oS.out.grow d;have oY:=zH (rD wc pj pL.out pi.out (by omega));have k0:=(g.out wc d).1 j s o.out 0 _ rfl;have k1:=(g.out wc d).1 j s o.out 1 _ rfl;have k2:=(g.out wc d).1 j s o.out 2 _ rfl;have k3:=(g.out wc d).1 j s o.out 3 _ rfl;have k4:=(g.out wc d).1 j s o.out 4 _ rfl;have k5:=(g.out wc d).1 j s o.out 5 _ rfl;have k6:=(g.out wc d).1 j s o.out 6 _ rfl;have k7:=(g.out wc d).1 j s o.out 7 _ rfl;have k8:=(g.out wc d).1 j s o.out 8 _ rfl;rw[ix] at k0;have D:=HE.out;rw[D] at k4;unfold Sm.cells at oY;rw[D] at oY;have qS:b<wc.heap.size:=(g.out wc d).2;have pN:=zH d;clear pj d D
     go_wp2_with (go_at_call 244;refine oY.out.mono ?_;rintro en w5 ⟨rfl,pP,pS,pk,pl⟩;have pT:=zH pk;have pZ:=zH pl;clear pk pl)
     go_roundw
     case rel=>
      have qT:=pi.out.len;exact⟨j+1,S1,pP,pS,by go_num,A,by omega,pH.out,pT.out,(HX.out.trans (Ext.of_below_size (M:=λ_=>fW) pN.out) (λq h=>h.elim)).trans pZ.out (λq h=> .inl h)⟩
     case measure=>simp[intOf];omega
  ·have ra:j=p.ss.length:=by omega
   have Y:=v.row;have rb:=aa Y;have f9:wr.frozen? ⟨c,9,ob⟩=od:=(rowAt Y 9 rfl).2;have c9:wr.cell? ⟨c,9,ob⟩=oa (ot sA S.length sC):=(rowAt Y 9 rfl).1;clear v f oR Y;go_wp2
   go_end0
   have pm:Ext (·=c) wr (wr.setCell ⟨c,9,ob⟩ (ot ob 0 0)):=Ext.set1 wr c 9 _;exact⟨rfl,⟨je oS.out.row,oS.out.pg.ext pm (λk R e=>by omega),pn,λh=>gC rfl h,by simp,λa h=>gC rfl h⟩,HX.out.trans pm (λq h=> .inl h)⟩
theorem ve (g:dr Addr)(h:bw)(w:World):zP 211 #[ot g 1 h] w (oA #[Z U 0,Z U 0]):=by
 obtain⟨N,b⟩:=zE w.heap.size;obtain⟨j,a⟩:=zE (w.alloc (oB #[Z U 0,Z U 0] 40));have f:=gq a b;have d:j.heap[N]?=oa (oB #[Z U 0,Z U 0] 40 (0,0)):=by rw[<-a,<-b];exact alloc_at _ _
 obtain⟨⟨c0,c1⟩,⟨f0,f1⟩,v⟩:=bg d;have o:=zH a;have q:=zH f;have u:=zH d;clear a f d;go_enter func211,ntmps211
 go_upto_region 1 with(fail)
 rw[o.out];go_wp2;(try simp only[cD,Exit.then]);refine cP (cV (P:=ac) rfl _ _ N 40 _ (0,0) _ rfl (aN u.out) nl rfl (by kernel_rfl)) rfl ?_;(try rw[b]);exact⟨rfl,(q.out.setCell (by show N<=N;omega) _).setCell (by show N<=N;omega) _⟩
theorem l5 {c:bw}{p:Pg}{L:bw}{f0 f1 f2 f3 f4 f5 f6:bo}{sA:dr Addr}{sC:bw}{S:bh Fd}{fd:Fd}(w:World)(h:Ck c p L f0 f1 f2 f3 f4 f5 f6 sA sC S w)(hf:p.fs=[fd])(oT:fd.ty=(oc,p.snm)):
  et ac 175 #[ox (oa ⟨c,0,ob⟩)] w λen w'=>en= oE (.tuple #[])/\bj w.heap.size w w':=by
 have pf:p.pA<w.heap.size:=cg h.pg.pA h.pg.lo;have c0:w.cell? ⟨c,0,ob⟩=oa (ot (oa ⟨p.pA,0,ob⟩) 1 p.pC):=(rowAt h.row 0 rfl).1;have pH:=aa h.row;obtain⟨v,y,ph,pi,pj⟩:=h.pg.fd (by rw[hf];simp);have pk:v<w.heap.size:=cg pi h.pg.lo;have pl:p.fs.length=1:=by rw[hf];rfl
 have pm:∀W,bj w.heap.size w W->(W.cell? ⟨v,y,ob⟩=oa (oe fd.nm)/\W.cell? ⟨v,y+1,ob⟩=oa (oy oc)/\W.cell? ⟨v,y+2,ob⟩=oa (oe p.snm)/\W.cell? ⟨v,y+3,ob⟩=oa (Z U fd.ln)/\W.cell? ⟨v,y+4,ob⟩=oa (Z U fd.cl)):=λW o=>by
  have g:∀k u,fd.cells.toList[k]?=oa u->W.cell? ⟨v,y+k,ob⟩=oa u:=λk u hu=>by
   rw[o.cell (p:=⟨v,y+k,ob⟩) pk];have:=pj 0 fd (by rw[hf];rfl) k u hu;simpa using this
  have e1:fd.ptr=oc:=dy Prod.fst oT;have e2:fd.tgt=p.snm:=dy km oT;refine⟨g 0 _ rfl, ?_, ?_,g 3 _ rfl,g 4 _ rfl⟩
  ·rw[<-e1];exact g 1 _ rfl
  ·rw[<-e2];exact g 2 _ rfl
 have pn:∀W,bj w.heap.size w W->(W.cell? ⟨p.pA,0,ob⟩=oa (oe p.snm)/\W.cell? ⟨p.pA,1,ob⟩=oa (ot (oa ⟨v,y,ob⟩) 1 p.fC)/\W.cell? ⟨p.pA,2,ob⟩=oa (Z U p.sl)/\W.cell? ⟨p.pA,3,ob⟩=oa (Z U p.sc)):=λW o=>by
  have g:=(h.pg.grow o).s;refine⟨g 0 _ rfl, ?_,g 2 _ rfl,g 3 _ rfl⟩;have po:=g 1 _ rfl;rw[ph,pl] at po;exact po
 have HF:=zH pm;have J:=zH pn;have H:=zH h;have oX:cr (∀(f a b:ct) W,bj w.heap.size w W->zP 176 #[ox (oa ⟨c,0,ob⟩),oy oc,Z U f,oA #[Z U a,Z U b]] W (oy oc)):=λf a b W o=>aU f a b W (h.grow o);have pL:cr (∀W,bj w.heap.size w W->zS 178 #[ox (oa ⟨c,0,ob⟩)] W (oy od)):=λW o=>bI W (h.grow o);have oY:∀W,bj w.heap.size w W->zP 212 #[oA p.cells,oe p.snm] W (Z U 0):=λW o=>by
  have:=dM p.snm W (h.grow o).pg;unfold jR at this;rw[m8] at this;exact this
 unfold Pg.cells at oY;have pN:=zH oY;have pP:cr (∀W,bj w.heap.size w W->zP 213 #[ox (oa ⟨c,0,ob⟩),oA #[oy oc,oe p.snm]] W (oy oc)):=λW o=>lC p.snm W (h.grow o) rfl;have hst:∀(w:World)(c:cC bo),c.size=5->(cM ⟨w.heap.size,0,ob⟩ [oe fd.nm,oy oc,oe p.snm,Z U fd.ln,Z U fd.cl] 0).run ac (w.alloc (oB c 92))= .ok () (w.alloc (oB #[oe fd.nm,oy oc,oe p.snm,Z U fd.ln,Z U fd.cl] 92)):=λw c hc=>
  cf (P:=ac) w 92 c #[oe fd.nm,oy oc,oe p.snm,Z U fd.ln,Z U fd.cl] (by show _=oa 5;kernel_rfl) hc (by simp[bp])
 have pS:=zH hst;clear h hf oT pi pj pm pn oY ph pl hst;go_enter func175,ntmps175
 go_upto_region 3 with(first
  |(go_at_call 211;refine(ve _ _ _).mono ?_;rintro e w2 ⟨rfl,pp⟩;have pb:=zH pp;clear pp)
  |(go_at_call 176;refine(oX.out _ _ _ w2 pb.out).mono ?_;rintro e w3 ⟨rfl,pw⟩;have pT:=zH (pb.out.trans (pw.mono pb.out.size));clear pw))
 clear c0
 go_loopw [3] (λi wr=>(i= Z U 0\/i= Z U 1)/\bj w.heap.size w wr) (λi _=>1-(intOf i).toNat)
 case atStart=>exact⟨.inl rfl,pT.out⟩
 case round=>
  obtain⟨hi,d⟩:=hrel;have pc:=zH d;have pZ:=zH (pL.out wr d);rcases hi with rfl|rfl
  rotate_left
  ·clear d
   go_wp2
   go_end0
   exact⟨rfl,pc.out⟩
  have b0:∀q:BW wr,q.w.cell? ⟨c,0,ob⟩=oa (ot (oa ⟨p.pA,0,ob⟩) 1 p.pC):=λq=>(rowAt (H.out.grow (d.trans (q.h.mono d.size))).row 0 rfl).1;have b1:∀q:BW wr,q.w.cell? ⟨c,1,ob⟩=oa (ot (oa ⟨p.qA,0,ob⟩) 1 p.qC):=λq=>(rowAt (H.out.grow (d.trans (q.h.mono d.size))).row 1 rfl).1;have K:∀q:BW wr,q.w.cell? ⟨p.pA,0,ob⟩=oa (oe p.snm):=λq=>(J.out q.w (d.trans (q.h.mono d.size))).1;have N:∀q:BW wr,q.w.cell? ⟨p.pA,2,ob⟩=oa (Z U p.sl):=λq=>(J.out q.w (d.trans (q.h.mono d.size))).2.2.1;have R:∀q:BW wr,q.w.cell? ⟨p.pA,3,ob⟩=oa (Z U p.sc):=λq=>(J.out q.w (d.trans (q.h.mono d.size))).2.2.2;have qe:cr (∀q:BW wr,zP 176 #[ox (oa ⟨c,0,ob⟩),oy oc,Z U 6,oA #[Z U p.sl,Z U p.sc]] q.w (oy oc)):=λq=>oX.out 6 p.sl p.sc q.w (d.trans (q.h.mono d.size));have qk:=zH (λq:BW wr=>pN.out q.w (d.trans (q.h.mono d.size)));have qt:p.pA<wr.heap.size:=cg pf d.size;have qu:c<wr.heap.size:=cg pH d.size;clear d
  go_upto_region 5 with(go_at_call 178;refine pZ.out.mono ?_;rintro e wr ⟨rfl,rfl⟩)
  go_cut [3] (λs wc=>s= Z U 0/\bj wr.heap.size wr wc)
  case first=>
   refine zQ ?_
   repeat (go_big_quiet_step (first
    |(go_at_call 212;exact bn (qk.out _))
    |(go_at_call 176;exact bn (qe.out _))))
   refine eC ?_;rintro _ ⟨q,rfl⟩;have g:=q.h;clear b0 b1 K N R;go_wp2
   go_meet
   case rel=>exact⟨rfl,g⟩
  case rest=>
   obtain⟨rfl,px⟩:=hcut;clear b0 b1 K N R;have py:=pc.out.trans (px.mono pc.out.size);have qn:=zH py;clear px py
   go_upto_region 7 with(fail)
   go_loopw [4] (λk wq=>(k= Z U 0\/k= Z U 1)/\bj w.heap.size w wq) (λk _=>1-(intOf k).toNat)
   case atStart=>exact⟨.inl rfl,qn.out⟩
   case round=>
    obtain⟨hk,A⟩:=hrel;have pB:=zH A;obtain⟨K,s1,N,R⟩:=J.out wr A;have qv:p.pA<wr.heap.size:=cg pf A.size;rcases hk with rfl|rfl
    rotate_left
    ·clear A
     go_wp2;go_roundw
     case rel=>exact⟨.inr rfl,pB.out⟩
     case measure=>simp[intOf]
    obtain⟨k0,k1,k2,k3,k4⟩:=HF.out wr A;have qq:=pS.out wr;have qS:v<wr.heap.size:=cg pk A.size;clear A
    go_upto_region 11 with(fail)
    clear qq;obtain⟨G,hG⟩:=zE wr.heap.size;obtain⟨W5,Y⟩:=zE (wr.alloc (oB #[oe fd.nm,oy oc,oe p.snm,Z U fd.ln,Z U fd.cl] 92));rw[hG,Y];have pD:=zD Y pB;have pd:W5.heap[G]?=oa (oB #[oe fd.nm,oy oc,oe p.snm,Z U fd.ln,Z U fd.cl] 92 (0,0)):=by rw[<-Y,<-hG];exact alloc_at _ _
    have oR:=aa pd;have D:=zH pD;have oS:=zH pd;clear hG Y pD pd K s1 N R k0 k1 k2 k3 k4
    go_loopw [6] (λj wq=>j= Z U 0/\wq=W5) (λ_ _=>0)
    case atStart=>exact⟨rfl,rfl⟩
    case round=>
     obtain⟨rfl,rfl⟩:=hrel;have x1:∀q:BW wr,q.w.cell? ⟨G,1,ob⟩=oa (oy oc):=λq=>(rowAt ((q.h.block G oR).trans oS.out) 1 rfl).1;have x2:∀q:BW wr,q.w.cell? ⟨G,2,ob⟩=oa (oe p.snm):=λq=>(rowAt ((q.h.block G oR).trans oS.out) 2 rfl).1;have x3:∀q:BW wr,q.w.cell? ⟨G,3,ob⟩=oa (Z U fd.ln):=λq=>(rowAt ((q.h.block G oR).trans oS.out) 3 rfl).1;have x4:∀q:BW wr,q.w.cell? ⟨G,4,ob⟩=oa (Z U fd.cl):=λq=>(rowAt ((q.h.block G oR).trans oS.out) 4 rfl).1;have qr:cr (∀q:BW wr,zP 176 #[ox (oa ⟨c,0,ob⟩),oy oc,Z U 5,oA #[Z U fd.ln,Z U fd.cl]] q.w (oy oc)):=λq=>oX.out 5 fd.ln fd.cl q.w (D.out.trans (q.h.mono D.out.size));have qs:=zH (λq:BW wr=>pP.out q.w (D.out.trans (q.h.mono D.out.size)))
     go_upto_region 14 with(fail)
     refine zQ ?_
     repeat (go_big_quiet_step (first
      |(go_at_call 213;exact bn (qs.out _))
      |(go_at_call 176;exact bn (qr.out _))))
     refine eC ?_;rintro _ ⟨q,rfl⟩;have HQ:cr (bj w.heap.size w q.w):=D.out.trans (q.h.mono D.out.size);clear x1 x2 x3 x4;go_wp2;go_roundw
     case rel=>exact⟨.inr rfl,HQ.out⟩
     case measure=>simp[intOf]
def Pg.fnV (p:Pg):cC bo:=#[oe p.nm,ot ob 0 0,oy p.ret.1,oe p.ret.2,ot p.bA p.ss.length p.bC,Z U p.gl,Z U p.gc]
theorem kP {c:bw}{p:Pg}{L:bw}{f0 f1 f2 f3 f4 f5 f6:bo}{sA:dr Addr}{sC:bw}{S:bh Fd}(w:World)(h:Ck c p L f0 f1 f2 f3 f4 f5 f6 sA sC S w)(pm:p.ret.1=od)(hk:eO p p.ret [] p.ss)(pB:p.ss.length<=1000)(pn:∀j,j<p.ss.length->(p.ss.take j).any ek=od)(po:p.ss≠[])(pp:p.ss.any ek=oc):
  et ac 179 #[ox (oa ⟨c,0,ob⟩),oA p.fnV] w λen w'=>en= oE (.tuple #[])/\
   Ck c p L (oe p.nm) (ot ob 0 0) (oy p.ret.1) (oe p.ret.2) (ot p.bA p.ss.length p.bC) (Z U p.gl) (Z U p.gc) ob 0 [] w'/\Ext (·=c) w w':=by
 obtain⟨N,g⟩:=zE w.heap.size;unfold Pg.fnV;obtain⟨R,Y⟩:=zE (w.alloc (oB #[oe p.nm,ot ob 0 0,oy p.ret.1,oe p.ret.2,ot p.bA p.ss.length p.bC,Z U p.gl,Z U p.gc] 233));have oY:=gq Y g;have oR:R.heap[N]?=oa (oB #[oe p.nm,ot ob 0 0,oy p.ret.1,oe p.ret.2,ot p.bA p.ss.length p.bC,Z U p.gl,Z U p.gc] 233 (0,0)):=by rw[<-Y,<-g];exact alloc_at _ _
 have rb:=aa oR;have h1:=h.grow (by rw[g];exact oY);have rc:c<N:=by rw[<-g];exact aa h.row
 have d:=h1.row;have re:=aa d;have r2:=(rowAt d 2 rfl)
 have r3:=(rowAt d 3 rfl)
 have r4:=(rowAt d 4 rfl)
 have r5:=(rowAt d 5 rfl)
 have r6:=(rowAt d 6 rfl)
 have r7:=(rowAt d 7 rfl)
 have r8:=(rowAt d 8 rfl)
 have r9:=(rowAt d 9 rfl)
 obtain⟨u2,v2⟩:=r2;obtain⟨u3,v3⟩:=r3;obtain⟨u4,v4⟩:=r4;obtain⟨u5,v5⟩:=r5;obtain⟨u6,v6⟩:=r6;obtain⟨u7,v7⟩:=r7;obtain⟨u8,v8⟩:=r8;obtain⟨u9,v9⟩:=r9;obtain⟨⟨o,u,v,y,A,D,G⟩,_,rh⟩:=bR oR;have H1:=zH h1;have pD:=zH d;have pH:=zH Y;have pL:=zH oY;have pN:=zH oR;have pP:=h.hc;have pS:=zH pm;have HK:=zH hk;have pT:=zH pn;have pZ:=zH pp;clear h pm hk pn pp Y oY oR h1 d;go_enter func179,ntmps179
 go_upto_region 1 with(fail)
 rw[pH.out]
 go_upto_region 4 with(fail)
 obtain⟨W2,oS⟩:=zE ((((((((R.setCell ⟨c,2,ob⟩ (oe p.nm)).setCell ⟨c,3,ob⟩ (ot ob 0 0)).setCell ⟨c,4,ob⟩ (oy p.ret.1)).setCell ⟨c,5,ob⟩ (oe p.ret.2)).setCell ⟨c,6,ob⟩ (ot p.bA p.ss.length p.bC)).setCell ⟨c,7,ob⟩ (Z U p.gl)).setCell ⟨c,8,ob⟩ (Z U p.gc)).setCell ⟨c,9,ob⟩ (ot ob 0 0));rw[oS];have oT:Ext (·=c) R W2:=by rw[<-oS];exact ae (ae (ae (ae (ae (ae (ae (ae (Ext.refl _ _) _) _) _) _) _) _) _) _
 have pw:Ck c p L (oe p.nm) (ot ob 0 0) (oy p.ret.1) (oe p.ret.2) (ot p.bA p.ss.length p.bC) (Z U p.gl) (Z U p.gc) ob 0 [] W2:=by
  refine⟨?_,H1.out.pg.ext oT (λk hk e=>by omega),pP,λh=>gC rfl h,by simp,λa h=>gC rfl h⟩;rw[<-oS];exact aq _ c 9 _ _ _ (aq _ c 8 _ _ _ (aq _ c 7 _ _ _ (aq _ c 6 _ _ _ (aq _ c 5 _ _ _ (aq _ c 4 _ _ _ (aq _ c 3 _ _ _ (aq _ c 2 _ _ _ pD.out)))))))
 have pb:=oT.heap pN.out (by omega);have qe:=zH oT;have pc:=zH pw;have f:=zH pb;have J:=aa pb;clear oS oT pw pb u2 u3 u4 u5 u6 u7 u8 u9 v2 v3 v4 v5 v6 v7 v8 v9 o u v y A D G
 go_loopw [4] (λk wq=>k= Z U 0/\wq=W2) (λ_ _=>0)
 case atStart=>exact⟨rfl,rfl⟩
 case round=>
  obtain⟨rfl,rfl⟩:=hrel;obtain⟨⟨o,u,v,y,A,D,G⟩,_,_⟩:=bR f.out
  go_upto_region 10 with(fail)
  clear o u v y A D G;have x2:∀q:BW wr,q.w.cell? ⟨N,2,ob⟩=oa (oy p.ret.1):=λq=>(rowAt ((q.h.block N J).trans f.out) 2 rfl).1;have x3:∀q:BW wr,q.w.cell? ⟨N,3,ob⟩=oa (oe p.ret.2):=λq=>(rowAt ((q.h.block N J).trans f.out) 3 rfl).1;have x5:∀q:BW wr,q.w.cell? ⟨N,5,ob⟩=oa (Z U p.gl):=λq=>(rowAt ((q.h.block N J).trans f.out) 5 rfl).1;have x6:∀q:BW wr,q.w.cell? ⟨N,6,ob⟩=oa (Z U p.gc):=λq=>(rowAt ((q.h.block N J).trans f.out) 6 rfl).1;have qk:cr (∀q:BW wr,zP 213 #[ox (oa ⟨c,0,ob⟩),oA #[oy p.ret.1,oe p.ret.2]] q.w (oy oc)):=λq=>by
   rw[pS.out];exact sU p.ret.2 q.w (pc.out.grow q.h)
  have qn:cr (∀q:BW wr,zP 176 #[ox (oa ⟨c,0,ob⟩),oy oc,Z U 5,oA #[Z U p.gl,Z U p.gc]] q.w (oy oc)):=λq=>aU 5 p.gl p.gc q.w (pc.out.grow q.h)
  go_cut [3] (λs wc=>s= ox (oa ⟨N,0,ob⟩)/\bj wr.heap.size wr wc)
  case first=>
   refine zQ ?_
   repeat (go_big_quiet_step (first
    |(go_at_call 213;exact bn (qk.out _))
    |(go_at_call 176;exact bn (qn.out _))))
   refine eC ?_;rintro _ ⟨q,rfl⟩;have hq:=q.h;clear x2 x3 x5 x6;go_wp2
   go_meet
   case rel=>exact⟨rfl,hq⟩
  case rest=>
   obtain⟨rfl,oX⟩:=hcut;clear x2 x3 x5 x6;have px:=pc.out.grow oX;have qq:=zH (pE wc px HK.out pB pT.out po);have pd:=(oX.block N J).trans f.out;obtain⟨⟨o,u,v,y,A,D,G⟩,_,rj⟩:=bR pd;have qr:=zH oX;have qs:=zH pd;clear px pd oX
   go_upto_region 12 with(go_at_call 215;refine qq.out.mono ?_;rintro en K ⟨rfl,py,pf⟩;have ph:=zH py;have qt:=zH pf;have pi:=pf.heap qs.out (by omega);have pj:=zH pi;have pk:=aa pi;clear py pf pi)
   have y4:∀q:BW K,q.w.cell? ⟨N,4,ob⟩=oa (ot p.bA p.ss.length p.bC):=λq=>(rowAt ((q.h.block N pk).trans pj.out) 4 rfl).1;have y5:∀q:BW K,q.w.cell? ⟨N,5,ob⟩=oa (Z U p.gl):=λq=>(rowAt ((q.h.block N pk).trans pj.out) 5 rfl).1;have y6:∀q:BW K,q.w.cell? ⟨N,6,ob⟩=oa (Z U p.gc):=λq=>(rowAt ((q.h.block N pk).trans pj.out) 6 rfl).1;have qu:cr (∀q:BW K,zP 176 #[ox (oa ⟨c,0,ob⟩),oy oc,Z U 8,oA #[Z U p.gl,Z U p.gc]] q.w (oy oc)):=λq=>aU 8 p.gl p.gc q.w (ph.out.grow q.h);have qv:cr (∀q:BW K,zP 216 #[ot p.bA p.ss.length p.bC] q.w (oy oc)):=λq=>by
    have pl:=(ph.out.grow q.h).pg;obtain⟨b,qS,hA,qT,ra⟩:=pl.st po;rw[hA];have:=jq b qS p.bC p.ss (by omega) (λx hx=>⟨HK.out.kinds x hx,(pl.sm hx).1⟩) q.w (λ_=>cg qT pl.lo) ra;rw[pZ.out] at this;exact this
   clear o u v y A D G;refine zQ ?_
   repeat (go_big_quiet_step (first
    |(go_at_call 216;exact bn (qv.out _))
    |(go_at_call 176;exact bn (qu.out _))))
   refine eC ?_;rintro _ ⟨q,rfl⟩;clear y4 y5 y6;go_wp2
   go_end0
   refine⟨rfl,ph.out.grow q.h, ?_⟩;have e1:Ext (·=c) w R:=Ext.of_below_size (by rw[g];exact pL.out);exact(((e1.trans qe.out (λq h=> .inl h)).trans (Ext.of_below_size (M:=λ_=>fW) qr.out) (λq h=>h.elim)).trans qt.out (λq h=> .inl h)).trans (Ext.of_below_size (M:=λ_=>fW) q.h) (λq h=>h.elim)
def lD:ap:=⟨#[109,97,105,110]⟩
structure zy (p:Pg):Prop where
 fs:∃fd,p.fs=[fd]/\fd.ty=(oc,p.snm)
 nm:p.nm=lD
 ret:p.ret.1=od
 ok:eO p p.ret [] p.ss
 ss:p.ss.length<=1000
 en:∀j,j<p.ss.length->(p.ss.take j).any ek=od
 ne:p.ss≠[]
 fin:p.ss.any ek=oc
def BI (p:Pg):cC bo:=#[ot (oa ⟨p.pA,0,ob⟩) 1 p.pC,ot (oa ⟨p.qA,0,ob⟩) 1 p.qC,oe ⟨#[]⟩,ot ob 0 0,oy od,oe ⟨#[]⟩,ot ob 0 0,Z U 0,Z U 0,ot ob 0 0,Z U 0,Z U 0,Z U 0,Z U 0,Z U 0]
def iE (c:bw)(p:Pg)(L:bw)(w:World):Prop:=∃f0 f1 f2 f3 f4 f5 f6 sA sC S,Ck c p L f0 f1 f2 f3 f4 f5 f6 sA sC S w
theorem iE.grow {c:bw}{p:Pg}{L:bw}{w w':World}(h:iE c p L w)(hb:bj w.heap.size w w'):iE c p L w':=by
 obtain⟨f0,f1,f2,f3,f4,f5,f6,sA,sC,S,h⟩:=h;exact⟨f0,f1,f2,f3,f4,f5,f6,sA,sC,S,h.grow hb⟩
theorem iE.pg {c:bw}{p:Pg}{L:bw}{w:World}(h:iE c p L w):fK p L w:=by
 obtain⟨f0,f1,f2,f3,f4,f5,f6,sA,sC,S,h⟩:=h;exact h.pg
theorem ig {c:bw}{p:Pg}{L:bw}(f a b:ct)(w:World)(h:iE c p L w):
  zP 176 #[ox (oa ⟨c,0,ob⟩),oy oc,Z U f,oA #[Z U a,Z U b]] w (oy oc):=by
 obtain⟨f0,f1,f2,f3,f4,f5,f6,sA,sC,S,h⟩:=h;exact aU f a b w h
theorem rF {c:bw}{p:Pg}{L:bw}(w:World)(h:iE c p L w):zS 178 #[ox (oa ⟨c,0,ob⟩)] w (oy od):=by
 obtain⟨f0,f1,f2,f3,f4,f5,f6,sA,sC,S,h⟩:=h;exact bI w h
theorem sZ {c:bw}{p:Pg}{L:bw}(w:World)(h:iE c p L w)(a:zy p):et ac 179 #[ox (oa ⟨c,0,ob⟩),oA p.fnV] w λe w'=>e= oE (.tuple #[])/\iE c p L w'/\Ext (·=c) w w':=by
 obtain⟨f0,f1,f2,f3,f4,f5,f6,sA,sC,S,h⟩:=h;refine(kP w h a.ret a.ok a.ss a.en a.ne a.fin).mono ?_;rintro e w' ⟨b,d,f⟩;exact⟨b,⟨_,_,_,_,_,_,_,_,_,_,d⟩,f⟩
theorem iE.d {c:bw}{p:Pg}{L:bw}{w:World}(h:iE c p L w):w.cell? ⟨c,10,ob⟩=oa (Z U 0)/\w.cell? ⟨c,11,ob⟩=oa (Z U 0)/\w.cell? ⟨c,12,ob⟩=oa (Z U 0)/\w.cell? ⟨c,13,ob⟩=oa (Z U 0)/\c<w.heap.size:=by
 obtain⟨f0,f1,f2,f3,f4,f5,f6,sA,sC,S,h⟩:=h;exact⟨(rowAt h.row 10 rfl).1,(rowAt h.row 11 rfl).1,(rowAt h.row 12 rfl).1,(rowAt h.row 13 rfl).1,aa h.row⟩
structure yw (N:bw)(p:Pg)(L:bw)(w W:World):Prop where
 ck:iE (N+2) p L W
 r0:W.heap[N]?=oa (oB #[ot (oa ⟨p.pA,0,ob⟩) 1 p.pC,ot (oa ⟨p.qA,0,ob⟩) 1 p.qC] 179 (0,0))
 r1:W.heap[N+1]?=oa (oB #[Z U 0,Z U 0,Z U 0,Z U 0] 113 (0,0))
 low:bj N w W
theorem yw.grow {N:bw}{p:Pg}{L:bw}{w W W':World}(h:yw N p L w W)(hb:bj W.heap.size W W'):yw N p L w W':=
 ⟨h.ck.grow hb,(hb.block N (aa h.r0)).trans h.r0,(hb.block (N+1) (aa h.r1)).trans h.r1,h.low.trans (hb.mono (li (aa h.r0)))⟩
theorem yw.fn {N:bw}{p:Pg}{L:bw}{w W:World}(h:yw N p L w W):(W.cell? ⟨p.qA,0,ob⟩=oa (oe p.nm)/\W.cell? ⟨p.qA,1,ob⟩=oa (ot ob 0 0)/\W.cell? ⟨p.qA,2,ob⟩=oa (oy p.ret.1)/\W.cell? ⟨p.qA,3,ob⟩=oa (oe p.ret.2)/\W.cell? ⟨p.qA,4,ob⟩=oa (ot p.bA p.ss.length p.bC)/\W.cell? ⟨p.qA,5,ob⟩=oa (Z U p.gl)/\W.cell? ⟨p.qA,6,ob⟩=oa (Z U p.gc))/\p.qA<W.heap.size:=by
 have hf:=h.ck.pg.f;exact⟨⟨hf 0 _ rfl,hf 1 _ rfl,hf 2 _ rfl,hf 3 _ rfl,hf 4 _ rfl,hf 5 _ rfl,hf 6 _ rfl⟩,cg h.ck.pg.qA h.ck.pg.lo⟩
theorem pF {p:Pg}{L:bw}(w:World)(h:fK p L w)(ho:zy p):
  zP 130 #[oA p.cells] w (oA #[Z U 0,Z U 0,Z U 0,Z U 0]):=by
 obtain⟨N,u⟩:=zE w.heap.size;obtain⟨fd,pk,pl⟩:=ho.fs;obtain⟨W2,v⟩:=zE ((w.alloc (oB #[ot (oa ⟨p.pA,0,ob⟩) 1 p.pC,ot (oa ⟨p.qA,0,ob⟩) 1 p.qC] 179)).alloc (oB #[Z U 0,Z U 0,Z U 0,Z U 0] 113));obtain⟨o,y⟩:=zE (W2.alloc (oB (BI p) 275));have pm:=oL v u;have pn:W2.heap.size=N+2:=by rw[<-v];simp[u]
 have pb:bj N w o:=by rw[<-y];exact pm.alloc (by omega) _
 have po:o.heap[N]?=oa (oB #[ot (oa ⟨p.pA,0,ob⟩) 1 p.pC,ot (oa ⟨p.qA,0,ob⟩) 1 p.qC] 179 (0,0)):=by
  rw[<-y];refine(bt _ _ N (by omega)).trans ?_;rw[<-v,<-u];exact eA _ _ _
 have pp:o.heap[N+1]?=oa (oB #[Z U 0,Z U 0,Z U 0,Z U 0] 113 (0,0)):=by
  rw[<-y];refine(bt _ _ (N+1) (by omega)).trans ?_;rw[<-v,<-u];exact gx _ _ _
 have pw:o.heap[N+2]?=oa (oB (BI p) 275 (0,0)):=by rw[<-y,<-pn];exact alloc_at _ _
 have px:=h.grow (show bj w.heap.size w o by rw[u];exact pb);have pc:Ck (N+2) p L (oe ⟨#[]⟩) (ot ob 0 0) (oy od) (oe ⟨#[]⟩) (ot ob 0 0) (Z U 0) (Z U 0) ob 0 [] o:=
  ⟨pw,px,by have:=h.lo;omega,λh=>gC rfl h,by simp,λa h=>gC rfl h⟩
 have qe:=zH (l5 o pc pk pl);have qk:cr (yw N p L w o):=⟨⟨_,_,_,_,_,_,_,_,_,_,pc⟩,po,pp,pb⟩
 have HO:=zH ho;have pd:=y;unfold BI at pd;have qn:=zH pd;have qq:=zH v;obtain⟨⟨f,g⟩,_,_⟩:=bg ((show W2.heap[N]?=oa (oB #[ot (oa ⟨p.pA,0,ob⟩) 1 p.pC,ot (oa ⟨p.qA,0,ob⟩) 1 p.qC] 179 (0,0)) by rw[<-v,<-u];exact eA _ _ _));have qv:N<W2.heap.size:=by omega
 unfold Pg.cells;clear h ho pk pl v y pd pm pb po pp pw px pc;go_enter func130,ntmps130
 go_upto_region 1 with(fail)
 rw[qq.out]
 go_upto_region 2 with(fail)
 rw[qn.out];(try simp only[pn]);clear f g
 go_upto_region 4 with(go_at_call 175;refine qe.out.mono ?_;rintro en w4 ⟨rfl,py⟩;have qr:=zH (qk.out.grow py);clear py)
 go_loopw [4] (λi wr=>(i= Z U 0\/i= Z U 1)/\yw N p L w wr) (λi _=>1-(intOf i).toNat)
 case atStart=>exact⟨.inl rfl,qr.out⟩
 case round=>
  obtain⟨D,b⟩:=hrel;obtain⟨⟨G,J,A,K,R,Y,q6⟩,qS⟩:=b.fn;obtain⟨⟨f,g⟩,_,qT⟩:=bg b.r0;have pB:=zH b;have oS:=zH (ig 2 p.gl p.gc wr b.ck);clear b;rcases D with rfl|rfl
  ·go_wp2_with (go_at_call 176;refine oS.out.mono ?_;rintro en w5 ⟨rfl,pD⟩;have pf:=zH (pB.out.grow pD);clear pD)
   go_roundw
   case rel=>exact⟨.inr rfl,pf.out⟩
   case measure=>simp[intOf]
  clear oS
  go_upto_region 8 with(fail)
  clear G J A K R Y q6 f g
  go_loopw [5] (λi wr=>(i= Z U 0\/i= Z U 1)/\yw N p L w wr) (λi _=>1-(intOf i).toNat)
  case atStart=>exact⟨.inl rfl,pB.out⟩
  case round=>
   obtain⟨D,b⟩:=hrel;obtain⟨⟨f,g⟩,_,ra⟩:=bg b.r0;have j:=zH b;have rb:=b.fn.2;clear b;rcases D with rfl|rfl
   ·go_upto_region 10 with(fail)
    clear f g;have x0:∀q:BW wr,q.w.cell? ⟨N,0,ob⟩=oa (ot (oa ⟨p.pA,0,ob⟩) 1 p.pC):=λq=>(rowAt (j.out.grow q.h).r0 0 rfl).1;have x1:∀q:BW wr,q.w.cell? ⟨N,1,ob⟩=oa (ot (oa ⟨p.qA,0,ob⟩) 1 p.qC):=λq=>(rowAt (j.out.grow q.h).r0 1 rfl).1;have y0:∀q:BW wr,q.w.cell? ⟨p.qA,0,ob⟩=oa (oe p.nm):=λq=>(j.out.grow q.h).fn.1.1;have y5:∀q:BW wr,q.w.cell? ⟨p.qA,5,ob⟩=oa (Z U p.gl):=λq=>(j.out.grow q.h).fn.1.2.2.2.2.2.1;have y6:∀q:BW wr,q.w.cell? ⟨p.qA,6,ob⟩=oa (Z U p.gc):=λq=>(j.out.grow q.h).fn.1.2.2.2.2.2.2;have ph:∀q:BW wr,zP 177 #[oA p.cells,oe p.nm] q.w (Z U 0):=λq=>by
     have:=jS p.nm q.w (j.out.grow q.h).ck.pg;unfold yn at this;rw[m8] at this;exact this
    unfold Pg.cells at ph;have qs:=zH ph;have oS:=zH (λq:BW wr=>ig 6 p.gl p.gc q.w (j.out.grow q.h).ck);clear ph;refine zQ ?_
    repeat (go_big_quiet_step (first
     |(go_at_call 177;exact bn (qs.out _))
     |(go_at_call 176;exact bn (oS.out _))))
    refine eC ?_;rintro _ ⟨q,rfl⟩;have HQ:=zH (j.out.grow q.h);clear x0 x1 y0 y5 y6;go_wp2;go_roundw
    case rel=>exact⟨.inr rfl,HQ.out⟩
    case measure=>simp[intOf]
   go_upto_region 12 with(fail)
   clear f g
   go_loopw [6] (λi wr=>(i= Z U 0\/i= Z U 1)/\yw N p L w wr) (λi _=>1-(intOf i).toNat)
   case atStart=>exact⟨.inl rfl,j.out⟩
   case round=>
    obtain⟨D,b⟩:=hrel;obtain⟨⟨f,g⟩,_,rc⟩:=bg b.r0;obtain⟨⟨G,J,A,K,R,Y,q6⟩,re⟩:=b.fn;have oR:=zH b;have pH:=zH (rF wr b.ck);have pi:=sZ wr b.ck HO.out;unfold Pg.fnV at pi;have pL:=zH pi;clear b pi;rcases D with rfl|rfl
    ·go_wp2_with (first
      |(go_at_call 178;refine pH.out.mono ?_;rintro e wr ⟨rfl,rfl⟩)
      |(go_at_call 179;refine pL.out.mono ?_;rintro en w5 ⟨rfl,pN,oT⟩;have pf:cr (yw N p L w w5):=(⟨pN,oT.heap oR.out.r0 (by omega),oT.heap oR.out.r1 (by omega),oR.out.low.trans (oT.below (by omega) (λq hq=>by omega))⟩:yw N p L w w5);clear pN oT))
     go_roundw
     case rel=>exact⟨.inr rfl,pf.out⟩
     case measure=>simp[intOf]
    have pP:p.nm=lD:=HO.out.nm;have pj:zP 177 #[oA p.cells,oe lD] wr (Z U 0):=by
     have:=jS lD wr oR.out.ck.pg;unfold yn at this;rw[pP,m8] at this;exact this
    unfold Pg.cells lD at pj;have qt:=zH pj;clear pP pj pL pH
    go_upto_region 16 with(go_at_call 177;refine qt.out.mono ?_;rintro en w6 ⟨rfl,pS⟩;have oX:=zH (oR.out.grow pS);clear pS)
    clear f g G J A K R Y q6;obtain⟨⟨f,g⟩,_,rh⟩:=bg oX.out.r0;obtain⟨⟨G,J,A,K,R,Y,q6⟩,rj⟩:=oX.out.fn;have pT:=HO.out.ret;rw[pT] at A;have qu:=zH (ig 9 1 1 w6 oX.out.ck);clear pT
    go_upto_region 17 with(go_at_call 176;refine qu.out.mono ?_;rintro en w7 ⟨rfl,pZ⟩;have oY:=zH (oX.out.grow pZ);clear pZ)
    clear f g G J A K R Y q6;obtain⟨d0,d1,d2,d3,rk⟩:=oY.out.ck.d;obtain⟨⟨e0,e1,e2,e3⟩,⟨f0,f1,f2,f3⟩,rl⟩:=ji oY.out.r1;go_wp2;(try simp only[cD,Exit.then]);refine cP (cV (P:=ac) rfl _ _ (N+1) 113 _ (0,0) _ rfl (fe oY.out.r1) la rfl (by kernel_rfl)) rfl ?_;(try rw[u]);exact⟨rfl,mO oY.out.low (by omega) _ _ _ _⟩
theorem yx:(ac.info? 34).map (λi=>(i.zero,i.size,i.bytes))=oa (oa (oA #[oy od,oe ⟨#[]⟩,Z U 0]),3,32):=by kernel_rfl
theorem yz:(ac.info? 42).map (λi=>(i.zero,i.size,i.bytes))=oa (oa (oA #[Z U 0,Z U 0,Z U 0,Z U 0,Z U 0,Z U 0,oe ⟨#[]⟩,ot ob 0 0,ot ob 0 0,Z U 0,Z U 0,Z U 0,Z U 0]),13,144):=by kernel_rfl
structure Fx where
 rt:Ty
 nm:ap
 pr:bo
 r7:bo
 r8:bo
 r9:bo
 fr:bo
 hs:bo
 os:bo
structure Sl where
 vA:dr Addr
 vC:bw
 iA:dr Addr
 iC:bw
 sA:dr Addr
 sC:bw
 wA:dr Addr
 wC:bw
structure dF where
 op:ct
 d:ct
 a:ct
 f:ct
 n:ct
 ln:ct
 cl:ct
def dF.cells (i:dF):cC bo:=#[Z U i.op,Z U i.d,Z U i.a,Z U 0,Z U i.f,Z U i.n,oe ⟨#[]⟩,ot ob 0 0,ot ob 0 0,Z U 0,Z U 0,Z U i.ln,Z U i.cl]
def Bj (i:dF):bh bo:=i.cells.toList
def Bl (y:Ty):bh bo:=[oy y.1,oe y.2,Z U 0]
def zz (p:Pg)(X:Fx)(s:Sl)(b d a:bw):cC bo:=
 #[ot (oa ⟨p.pA,0,ob⟩) 1 p.pC,ot (oa ⟨p.qA,0,ob⟩) 1 p.qC,oy X.rt.1,oe X.rt.2,oe X.nm,X.pr,ot s.vA b s.vC,X.r7,X.r8,X.r9,X.fr,ot s.iA d s.iC,ot s.sA a s.sC,ot s.wA a s.wC,Z U 0,Z U 0,Z U 0,Z U 0,X.hs,X.os]
structure Mk (m:bw)(p:Pg)(L:bw)(X:Fx)(V:bh Ty)(I:bh dF)(S:bh (ap×bw))(O:bw->Prop)(s:Sl)(w:World):Prop where
 row:w.heap[m]?=oa (oB (zz p X s V.length I.length S.length) 236 (0,0))
 pg:fK p L w
 hm:L<=m
 vars:w.ownsRow (m+1) 34 3 (ot s.vA V.length s.vC) V.length (V.flatMap Bl)
 ins:w.ownsRow (m+1) 42 13 (ot s.iA I.length s.iC) I.length (I.flatMap Bj)
 dis:∀k,(bk s.vA V.length s.vC).ownBlock=oa k->(bk s.iA I.length s.iC).ownBlock=oa k->fW
 ov:∀k,(bk s.vA V.length s.vC).ownBlock=oa k->O k
 oi:∀k,(bk s.iA I.length s.iC).ownBlock=oa k->O k
 ol:∀k,O k->m<k/\k<w.heap.size
 seen:aC (λx:ap×bw=>#[oe x.1]) 1 w w.heap.size s.sA S
 whic:aC (λx:ap×bw=>#[Z U (x.2:ct)]) 1 w w.heap.size s.wA S
 ns:∀a,S≠[]->(s.sA=oa a\/s.wA=oa a)->a.block≠m/\¬O a.block
 lV:V.length<=1000
 lI:I.length<=1000
 lS:S.length<=1000
 cS:S.length<=s.sC/\S.length<=s.wC
section
variable {m:bw}{p:Pg}{L:bw}{X:Fx}{V:bh Ty}{I:bh dF}{S:bh (ap×bw)}{O:bw->Prop}{s:Sl}{w w':World}
theorem aC.stay {α:Type}{cells:α->cC bo}{d:bw}{w w':World}{f:dr Addr}{xs:bh α}{M:bw->Prop}(h:aC cells d w w.heap.size f xs)(j:Ext M w w')(y:∀a,xs≠[]->f=oa a->¬M a.block):aC cells d w' w'.heap.size f xs:=by
 intro o;obtain⟨b,g,q,v,A⟩:=h o;exact⟨b,g,q,cg v j.size,λi x D k u G=>(j.cell (a:=⟨b,g+i*d+k,ob⟩) v (y ⟨b,g,ob⟩ o q)).trans (A i x D k u G)⟩
theorem Mk.ext {M:bw->Prop}(h:Mk m p L X V I S O s w)(b:Ext M w w')(g:∀k,k<=m->¬M k)(j:∀k,O k->¬M k)(o:∀a,S≠[]->(s.sA=oa a\/s.wA=oa a)->¬M a.block):Mk m p L X V I S O s w':=
 ⟨b.heap h.row (g m (bl _)),h.pg.ext b (λk d=>g k (by have:=h.hm;omega)),h.hm,af h.vars b (λk d=>j k (h.ov k d)),af h.ins b (λk d=>j k (h.oi k d)),h.dis,h.ov,h.oi,λk d=>⟨(h.ol k d).1,cg (h.ol k d).2 b.size⟩,
  h.seen.stay b (λa f e=>o a f (.inl e)),h.whic.stay b (λa f e=>o a f (.inr e)),h.ns,h.lV,h.lI,h.lS,h.cS⟩
theorem Mk.grow (h:Mk m p L X V I S O s w)(hb:bj w.heap.size w w'):Mk m p L X V I S O s w':=h.ext (Ext.of_below_size (M:=λ_=>fW) hb) (λ_ _ h=>h) (λ_ _ h=>h) (λ_ _ _ h=>h)
end
def bB (m:bw)(p:Pg)(L:bw)(X:Fx)(V:bh Ty)(I:bh dF)(S:bh (ap×bw))(O:bw->Prop)(w w':World):Prop:=
 ∃a s',Mk m p L X V I S a s' w'/\Ext (λq=>q=m\/O q) w w'/\∀k,a k->O k\/w.heap.size<=k
theorem bB.trans {m:bw}{p:Pg}{L:bw}{X:Fx}{V2:bh Ty}{I2:bh dF}{b:bh (ap×bw)}{O d:bw->Prop}{w w1 w2:World}(f:Ext (λq=>q=m\/O q) w w1)(g:∀k,d k->O k\/w.heap.size<=k)(h:bB m p L X V2 I2 b d w1 w2):bB m p L X V2 I2 b O w w2:=by
 obtain⟨j,s',o,u,v⟩:=h;refine⟨j,s',o,f.trans u (λq a=> ?_),λk y=> ?_⟩
 ·rcases a with rfl|a
  ·exact .inl (.inl rfl)
  ·rcases g q a with h|h
   ·exact .inl (.inr h)
   ·exact .inr h
 ·rcases v k y with h|h
  ·exact g k h
  ·exact .inr (cv f.size h)
theorem jr {m:bw}{p:Pg}{L:bw}{X:Fx}{V:bh Ty}{I:bh dF}{S:bh (ap×bw)}{O:bw->Prop}{s:Sl}(y:Ty)(w:World)(h:Mk m p L X V I S O s w)(hl:V.length+1<=1000):
  et ac 131 #[ox (oa ⟨m,0,ob⟩),oA #[oy y.1,oe y.2]] w λe w'=>e= oE (Z U (V.length:ct))/\bB m p L X (V++[y]) I S O w w':=by
 obtain⟨N,hN⟩:=zE w.heap.size;obtain⟨o,oY⟩:=zE (w.alloc (oB #[oy y.1,oe y.2] 32));have pl:=gq oY hN;have pm:o.heap[N]?=oa (oB #[oy y.1,oe y.2] 32 (0,0)):=by rw[<-oY,<-hN];exact alloc_at _ _
 have rx:=aa pm;have j:Mk m p L X V I S O s o:=h.grow (by rw[hN];exact pl);have rB:m<N:=by have:=aa h.row;omega
 have pN:∀k,O k->k<N:=λk f=>by have:=(h.ol k f).2;omega
 obtain⟨v,hv⟩:=zE (bk s.vA V.length s.vC);have pn:=j.vars;rw[hv] at pn;obtain⟨i0,pP,pS,pT,pZ⟩:=iu yx;obtain⟨S1,po⟩:=zE ((λw'=>w'.cell? ⟨m,6,ob⟩=oa v/\w'.heap[N]?=oa (oB #[oy y.1,oe y.2] 32 (0,0))):World->Prop);have qe:∀w,S1 w->w.cell? ⟨m,6,ob⟩=oa v/\w.heap[N]?=oa (oB #[oy y.1,oe y.2] 32 (0,0)):=λw h=>by rw[<-po] at h;exact h
 have pp:∀w,w.cell? ⟨m,6,ob⟩=oa v/\w.heap[N]?=oa (oB #[oy y.1,oe y.2] 32 (0,0))->S1 w:=λw h=>by rw[<-po];exact h
 have pw:=j.row;have rI:=aa pw;have px:o.drew.heap[m]?=oa (oB (zz p X s V.length I.length S.length) 236 (0,0)):=pw;have py:o.drew.heap[N]?=oa (oB #[oy y.1,oe y.2] 32 (0,0)):=pm;have rK:S1 o.drew:=pp _ ⟨by rw[<-hv];exact(rowAt px 6 rfl).1,py⟩;have qk:=zH qe;have qn:=zH pp;have rb:=zH oY;have qq:=zH pl;have rc:=zH j;have rL:=zH pn;have re:=zH px;have rh:=zH py;have HV:=zH hv;have rj:=zH pN;clear h oY pl pm j pn po qe pp pw px py hv pN;go_enter func131,ntmps131
 go_upto_region 1 with(fail)
 rw[rb.out];refine ai 13 S1 (by kernel_rfl) ?_;have u:=zH λw h=>And.intro (qk.out w h) (Bf (qk.out w h).2);refine zT 0 rfl u.out ?_;(try go_simp);refine zT 1 rfl u.out ?_;(try go_simp);refine zT 2 rfl u.out ?_;(try go_simp);refine zT 3 rfl u.out ?_;(try go_simp);refine zT 4 rfl u.out ?_;(try go_simp);refine zT 5 rfl u.out ?_;(try go_simp);refine zT 6 rfl u.out ?_;(try go_simp);refine zT 7 rfl u.out ?_;(try go_simp);refine zO 8 rfl λK' J=> ?_;go_simp;obtain⟨G,hG⟩:=zE o.heap.size;obtain⟨K,pb⟩:=zE ((o.alloc (oB #[oy y.1,oe y.2,Z U 0] 34)).drew);(try rw[hG]);(try rw[pb]);have pc:bj G o K:=by rw[<-pb,<-hG];exact((an _ _).alloc (bl _) _).drew
 have qr:K.heap[G]?=oa (oB #[oy y.1,oe y.2,Z U 0] 34 (0,0)):=by rw[<-pb,<-hG];exact alloc_at _ _
 have pd:=(pc.block m (by omega)).trans re.out;have pB:=(pc.block N (by omega)).trans rh.out;refine J _ _ (qn.out _ ⟨by rw[<-HV.out];exact(rowAt pd 6 rfl).1,pB⟩) ?_;clear J;(try go_simp);refine zO 9 rfl λK' J=> ?_;have pf:Ext (λ_=>fW) o K:=Ext.of_below_size (by rw[hG];exact pc);have d:Mk m p L X V I S O s K:=rc.out.ext pf (λ_ _ h=>h) (λ_ _ h=>h) (λ_ _ _ h=>h);have pD:=d.vars;rw[HV.out] at pD;have rN:=aa pd;refine ay (.tmp 10) (.tmp 13) 30 rfl (m+1) 34 i0 _ 3 32 underlying30 pP pS pT pZ rfl (by decide) v V.length _ rfl pD (oa ⟨G,0,ob⟩) 1 1 [oy y.1,oe y.2,Z U 0] rfl rfl (λh=>by cases h) (λad rk jj uu hu=>by
  obtain rfl:(⟨G,0,ob⟩:Addr)=ad:=by simpa using rk
  rw[cI,cJ,ci _ _ _ _ _ _ qr];simpa using hu) (by simp[bp]) (by unfold cX;omega) (by omega) (by omega) ?_
 intro v9 w9 oT qs qt;have ph:Ext (λq=>v.ownBlock=oa q) K w9:=Ext.of_grown qs (λq g=> .inl g);have D:∀q,v.ownBlock=oa q->O q:=λq g=>d.ov q (by rw[HV.out];exact g);have oX:=ph.heap pd (λg=>by have:=(d.ol _ (D _ g)).1;omega);have qu:=ph.heap pB (λg=>by have:=rj.out _ (D _ g);omega);obtain⟨R,Y,rl⟩:=au oT;subst rl;have qv:S1 w9:=qn.out _ ⟨by rw[<-HV.out];exact(rowAt oX 6 rfl).1,qu⟩;have rm:=(rowAt oX 6 rfl).2;have rn:w9.cell? ⟨m,6,ob⟩=oa v:=by rw[<-HV.out];exact(rowAt oX 6 rfl).1
 refine J _ _ qv ?_;clear J;(try go_simp);refine zT 10 rfl u.out ?_;(try go_simp);refine zT 11 rfl u.out ?_;(try go_simp);refine zT 12 rfl u.out ?_;(try go_simp);refine zK rfl λK' J=> ?_;go_simp;refine J _ _ ?_;clear J;refine⟨by kernel_rfl, ?_⟩;obtain⟨WF,pi⟩:=zE (w9.setCell ⟨m,6,ob⟩ (ot R (V.length+1) Y));(try rw[pi]);have pj:Ext (·=m) w9 WF:=by rw[<-pi];exact Ext.set1 w9 m 6 _
 have pH:WF.heap[m]?=oa (oB (zz p X {s with vA:=R,vC:=Y} (V.length+1) I.length S.length) 236 (0,0)):=by rw[<-pi];exact aq w9 m 6 _ _ _ oX
 have oR:Ext (λq=>q=m\/v.ownBlock=oa q) K WF:=(ph.mono (λq h=> .inr h)).trans pj (λq h=> .inl (.inl h));have qS:Ext (λq=>q=m\/v.ownBlock=oa q) o WF:=(pf.mono (λq h=>h.elim)).trans oR (λq h=> .inl h);have oS:(V++[y]).length=V.length+1:=by simp
 have pk:∀k,(bk R (V.length+1) Y).ownBlock=oa k->v.ownBlock=oa k\/K.heap.size<=k:=qt;have qT:∀k,(bk R (V.length+1) Y).ownBlock=oa k->k<WF.heap.size:=λk f=>cg (oT.lt k f).2 pj.size;have pL:∀k,(bk R (V.length+1) Y).ownBlock=oa k->m+1<=k:=λk f=>(oT.lt k f).1;have ra:bB m p L X (V++[y]) I S O w WF:=by
  refine⟨λq=>O q\/(bk R (V.length+1) Y).ownBlock=oa q,{s with vA:=R,vC:=Y}, ?_, ?_,λk f=> ?_⟩
  ·refine⟨by rw[oS];exact pH,d.pg.ext oR (λk f g=> ?_),d.hm, ?_,af d.ins oR (λk f g=> ?_),λk j h2=> ?_,λk f=> ?_,λk f=> ?_,λk f=> ?_,d.seen.stay oR (λa A e g=> ?_),d.whic.stay oR (λa A e g=> ?_),λa A e=>⟨(d.ns a A e).1,λg=> ?_⟩,by rw[oS];omega,d.lI,d.lS,d.cS⟩
   ·have:=d.hm
    rcases g with h|h
    ·omega
    ·have:=(d.ol _ (D _ h)).1;omega
   ·rw[oS,dk];exact af oT pj (λk f e=>by have:=pL k f;omega)
   ·rcases g with h|h
    ·have:=(d.ol k (d.oi k f)).1;omega
    ·exact d.dis k (by rw[HV.out];exact h) f
   ·rw[oS] at j
    rcases pk k j with h|h
    ·exact d.dis k (by rw[HV.out];exact h) h2
    ·have:=(d.ol k (d.oi k h2)).2;omega
   ·rw[oS] at f;exact .inr f
   ·exact .inl (d.oi k f)
   ·rcases f with h|h
    ·exact⟨(d.ol k h).1,cg (d.ol k h).2 oR.size⟩
    ·exact⟨pL k h,qT k h⟩
   ·rcases g with h|h
    ·exact(d.ns a A (.inl e)).1 h
    ·exact(d.ns a A (.inl e)).2 (D _ h)
   ·rcases g with h|h
    ·exact(d.ns a A (.inr e)).1 h
    ·exact(d.ns a A (.inr e)).2 (D _ h)
   ·rcases g with h|h
    ·exact(d.ns a A e).2 h
    ·rcases pk _ h with h|h
     ·exact(d.ns a A e).2 (D _ h)
     ·have rS:a.block<K.heap.size:=by
       rcases e with e|e
       ·obtain⟨b,ro,j,h2,_⟩:=d.seen A
        rw[e] at j;cases j;exact h2
       ·obtain⟨b,ro,j,h2,_⟩:=d.whic A
        rw[e] at j;cases j;exact h2
      omega
  ·have rr:Ext (λ_=>fW) w o:=Ext.of_below_size (by rw[hN];exact qq.out)
   exact(rr.mono (λq h=>h.elim)).trans qS (λq h=>by
    rcases h with h|h
    ·exact .inl (.inl h)
    ·exact .inl (.inr (D _ h)))
  ·rcases f with h|h
   ·exact .inl h
   ·rcases pk k h with h|h
    ·exact .inl (D _ h)
    ·right;have:=pf.size;have:=qq.out.size;omega
 have rv:=zH ra;have cF:WF.cell? ⟨m,6,ob⟩=oa (ot R (V.length+1) Y):=(rowAt pH 6 rfl).1;have se:=zH oS;have sf:(((V.length+1:bw):ct))-1=(V.length:ct):=by omega
 clear pi pj oR qS pk qT pL ra pH oT qs qt ph D oX qu qv rm rn d pD pd pB pf pc qr pb hG pP pS pT pZ;go_wp2;go_ret;exact⟨by go_num,rv.out⟩
theorem eP {m:bw}{p:Pg}{L:bw}{X:Fx}{V:bh Ty}{I:bh dF}{S:bh (ap×bw)}{O:bw->Prop}{s:Sl}(i:dF)(w:World)(h:Mk m p L X V I S O s w)(hl:I.length+1<=1000):
  et ac 223 #[ox (oa ⟨m,0,ob⟩),oA #[Z U i.op,Z U i.d,Z U i.a,Z U 0,Z U i.f,Z U i.n,oe ⟨#[]⟩,ot ob 0 0,ot ob 0 0,Z U 0,Z U 0,Z U i.ln,Z U i.cl]] w λe w'=>e= oE (Z U (I.length:ct))/\bB m p L X V (I++[i]) S O w w':=by
 obtain⟨N,hN⟩:=zE w.heap.size;obtain⟨y,oY⟩:=zE (w.alloc (oB #[Z U i.op,Z U i.d,Z U i.a,Z U 0,Z U i.f,Z U i.n,oe ⟨#[]⟩,ot ob 0 0,ot ob 0 0,Z U 0,Z U 0,Z U i.ln,Z U i.cl] 42));have pl:=gq oY hN;have pm:y.heap[N]?=oa (oB #[Z U i.op,Z U i.d,Z U i.a,Z U 0,Z U i.f,Z U i.n,oe ⟨#[]⟩,ot ob 0 0,ot ob 0 0,Z U 0,Z U 0,Z U i.ln,Z U i.cl] 42 (0,0)):=by rw[<-oY,<-hN];exact alloc_at _ _
 have rx:=aa pm;have u:Mk m p L X V I S O s y:=h.grow (by rw[hN];exact pl);have rB:m<N:=by have:=aa h.row;omega
 have pN:∀k,O k->k<N:=λk j=>by have:=(h.ol k j).2;omega
 obtain⟨v,hv⟩:=zE (bk s.iA I.length s.iC);have pn:=u.ins;rw[hv] at pn;obtain⟨i0,pP,pS,pT,pZ⟩:=iu yz;obtain⟨S1,po⟩:=zE ((λw'=>w'.cell? ⟨m,11,ob⟩=oa v/\w'.heap[N]?=oa (oB #[Z U i.op,Z U i.d,Z U i.a,Z U 0,Z U i.f,Z U i.n,oe ⟨#[]⟩,ot ob 0 0,ot ob 0 0,Z U 0,Z U 0,Z U i.ln,Z U i.cl] 42 (0,0))):World->Prop);have qe:∀w,S1 w->w.cell? ⟨m,11,ob⟩=oa v/\w.heap[N]?=oa (oB #[Z U i.op,Z U i.d,Z U i.a,Z U 0,Z U i.f,Z U i.n,oe ⟨#[]⟩,ot ob 0 0,ot ob 0 0,Z U 0,Z U 0,Z U i.ln,Z U i.cl] 42 (0,0)):=λw h=>by rw[<-po] at h;exact h
 have pp:∀w,w.cell? ⟨m,11,ob⟩=oa v/\w.heap[N]?=oa (oB #[Z U i.op,Z U i.d,Z U i.a,Z U 0,Z U i.f,Z U i.n,oe ⟨#[]⟩,ot ob 0 0,ot ob 0 0,Z U 0,Z U 0,Z U i.ln,Z U i.cl] 42 (0,0))->S1 w:=λw h=>by rw[<-po];exact h
 have pw:=u.row;have rI:=aa pw;have px:y.drew.heap[m]?=oa (oB (zz p X s V.length I.length S.length) 236 (0,0)):=pw;have py:y.drew.heap[N]?=oa (oB #[Z U i.op,Z U i.d,Z U i.a,Z U 0,Z U i.f,Z U i.n,oe ⟨#[]⟩,ot ob 0 0,ot ob 0 0,Z U 0,Z U 0,Z U i.ln,Z U i.cl] 42 (0,0)):=pm;have rK:S1 y.drew:=pp _ ⟨by rw[<-hv];exact(rowAt px 11 rfl).1,py⟩;have qk:=zH qe;have qn:=zH pp;have rb:=zH oY;have qq:=zH pl;have rc:=zH u;have rL:=zH pn;have re:=zH px;have rh:=zH py;have HV:=zH hv;have rj:=zH pN;clear h oY pl pm u pn po qe pp pw px py hv pN;go_enter func223,ntmps223
 go_upto_region 1 with(fail)
 rw[rb.out];refine ai 12 S1 (by kernel_rfl) ?_;have D:=zH λw h=>And.intro (qk.out w h) (AJ (qk.out w h).2);refine zT 0 rfl D.out ?_;(try go_simp);refine zT 1 rfl D.out ?_;(try go_simp);refine zT 2 rfl D.out ?_;(try go_simp);refine zT 3 rfl D.out ?_;(try go_simp);refine zT 4 rfl D.out ?_;(try go_simp);refine zT 5 rfl D.out ?_;(try go_simp);refine zT 6 rfl D.out ?_;(try go_simp);refine zO 7 rfl λK' K=> ?_;go_simp;obtain⟨G,hG⟩:=zE y.heap.size;obtain⟨R,pb⟩:=zE ((y.alloc (oB #[Z U i.op,Z U i.d,Z U i.a,Z U 0,Z U i.f,Z U i.n,oe ⟨#[]⟩,ot ob 0 0,ot ob 0 0,Z U 0,Z U 0,Z U i.ln,Z U i.cl] 42)).drew);(try rw[hG]);(try rw[pb]);have pc:bj G y R:=by rw[<-pb,<-hG];exact((an _ _).alloc (bl _) _).drew
 have qr:R.heap[G]?=oa (oB #[Z U i.op,Z U i.d,Z U i.a,Z U 0,Z U i.f,Z U i.n,oe ⟨#[]⟩,ot ob 0 0,ot ob 0 0,Z U 0,Z U 0,Z U i.ln,Z U i.cl] 42 (0,0)):=by rw[<-pb,<-hG];exact alloc_at _ _
 have pd:=(pc.block m (by omega)).trans re.out;have pB:=(pc.block N (by omega)).trans rh.out;refine K _ _ (qn.out _ ⟨by rw[<-HV.out];exact(rowAt pd 11 rfl).1,pB⟩) ?_;clear K;(try go_simp);refine zO 8 rfl λK' K=> ?_;have pf:Ext (λ_=>fW) y R:=Ext.of_below_size (by rw[hG];exact pc);have g:Mk m p L X V I S O s R:=rc.out.ext pf (λ_ _ h=>h) (λ_ _ h=>h) (λ_ _ _ h=>h);have pD:=g.ins;rw[HV.out] at pD;have rN:=aa pd;refine ay (.tmp 10) (.tmp 12) 36 rfl (m+1) 42 i0 _ 13 144 underlying36 pP pS pT pZ rfl (by decide) v I.length _ rfl pD (oa ⟨G,0,ob⟩) 1 1 [Z U i.op,Z U i.d,Z U i.a,Z U 0,Z U i.f,Z U i.n,oe ⟨#[]⟩,ot ob 0 0,ot ob 0 0,Z U 0,Z U 0,Z U i.ln,Z U i.cl] rfl rfl (λh=>by cases h) (λad rk jj uu hu=>by
  obtain rfl:(⟨G,0,ob⟩:Addr)=ad:=by simpa using rk
  rw[cI,cJ,ci _ _ _ _ _ _ qr];simpa using hu) (by simp[bp]) (by unfold cX;omega) (by omega) (by omega) ?_
 intro v9 w9 oT qs qt;have ph:Ext (λq=>v.ownBlock=oa q) R w9:=Ext.of_grown qs (λq o=> .inl o);have J:∀q,v.ownBlock=oa q->O q:=λq o=>g.oi q (by rw[HV.out];exact o);have oX:=ph.heap pd (λo=>by have:=(g.ol _ (J _ o)).1;omega);have qu:=ph.heap pB (λo=>by have:=rj.out _ (J _ o);omega);obtain⟨Y,c9,rl⟩:=au oT;subst rl;have qv:S1 w9:=qn.out _ ⟨by rw[<-HV.out];exact(rowAt oX 11 rfl).1,qu⟩;have rm:=(rowAt oX 11 rfl).2;have rn:w9.cell? ⟨m,11,ob⟩=oa v:=by rw[<-HV.out];exact(rowAt oX 11 rfl).1
 refine K _ _ qv ?_;clear K;(try go_simp);refine zT 9 rfl D.out ?_;(try go_simp);refine zT 10 rfl D.out ?_;(try go_simp);refine zT 11 rfl D.out ?_;(try go_simp);refine zK rfl λK' K=> ?_;go_simp;refine K _ _ ?_;clear K;refine⟨by kernel_rfl, ?_⟩;obtain⟨WF,pi⟩:=zE (w9.setCell ⟨m,11,ob⟩ (ot Y (I.length+1) c9));(try rw[pi]);have pj:Ext (·=m) w9 WF:=by rw[<-pi];exact Ext.set1 w9 m 11 _
 have pH:WF.heap[m]?=oa (oB (zz p X {s with iA:=Y,iC:=c9} V.length (I.length+1) S.length) 236 (0,0)):=by rw[<-pi];exact aq w9 m 11 _ _ _ oX
 have oR:Ext (λq=>q=m\/v.ownBlock=oa q) R WF:=(ph.mono (λq h=> .inr h)).trans pj (λq h=> .inl (.inl h));have qS:Ext (λq=>q=m\/v.ownBlock=oa q) y WF:=(pf.mono (λq h=>h.elim)).trans oR (λq h=> .inl h);have oS:(I++[i]).length=I.length+1:=by simp
 have pk:∀k,(bk Y (I.length+1) c9).ownBlock=oa k->v.ownBlock=oa k\/R.heap.size<=k:=qt;have qT:∀k,(bk Y (I.length+1) c9).ownBlock=oa k->k<WF.heap.size:=λk j=>cg (oT.lt k j).2 pj.size;have pL:∀k,(bk Y (I.length+1) c9).ownBlock=oa k->m+1<=k:=λk j=>(oT.lt k j).1;have ra:bB m p L X V (I++[i]) S O w WF:=by
  refine⟨λq=>O q\/(bk Y (I.length+1) c9).ownBlock=oa q,{s with iA:=Y,iC:=c9}, ?_, ?_,λk j=> ?_⟩
  ·refine⟨by rw[oS];exact pH,g.pg.ext oR (λk j o=> ?_),g.hm,af g.vars oR (λk j o=> ?_), ?_,λk u h2=> ?_,λk j=> ?_,λk j=> ?_,λk j=> ?_,g.seen.stay oR (λa A e o=> ?_),g.whic.stay oR (λa A e o=> ?_),λa A e=>⟨(g.ns a A e).1,λo=> ?_⟩,g.lV,by rw[oS];omega,g.lS,g.cS⟩
   ·have:=g.hm
    rcases o with h|h
    ·omega
    ·have:=(g.ol _ (J _ h)).1;omega
   ·rcases o with h|h
    ·have:=(g.ol k (g.ov k j)).1;omega
    ·exact g.dis k j (by rw[HV.out];exact h)
   ·rw[oS,dk];exact af oT pj (λk j e=>by have:=pL k j;omega)
   ·rw[oS] at h2
    rcases pk k h2 with h|h
    ·exact g.dis k u (by rw[HV.out];exact h)
    ·have:=(g.ol k (g.ov k u)).2;omega
   ·exact .inl (g.ov k j)
   ·rw[oS] at j;exact .inr j
   ·rcases j with h|h
    ·exact⟨(g.ol k h).1,cg (g.ol k h).2 oR.size⟩
    ·exact⟨pL k h,qT k h⟩
   ·rcases o with h|h
    ·exact(g.ns a A (.inl e)).1 h
    ·exact(g.ns a A (.inl e)).2 (J _ h)
   ·rcases o with h|h
    ·exact(g.ns a A (.inr e)).1 h
    ·exact(g.ns a A (.inr e)).2 (J _ h)
   ·rcases o with h|h
    ·exact(g.ns a A e).2 h
    ·rcases pk _ h with h|h
     ·exact(g.ns a A e).2 (J _ h)
     ·have rS:a.block<R.heap.size:=by
       rcases e with e|e
       ·obtain⟨b,ro,u,h2,_⟩:=g.seen A
        rw[e] at u;cases u;exact h2
       ·obtain⟨b,ro,u,h2,_⟩:=g.whic A
        rw[e] at u;cases u;exact h2
      omega
  ·have rr:Ext (λ_=>fW) w y:=Ext.of_below_size (by rw[hN];exact qq.out)
   exact(rr.mono (λq h=>h.elim)).trans qS (λq h=>by
    rcases h with h|h
    ·exact .inl (.inl h)
    ·exact .inl (.inr (J _ h)))
  ·rcases j with h|h
   ·exact .inl h
   ·rcases pk k h with h|h
    ·exact .inl (J _ h)
    ·right;have:=pf.size;have:=qq.out.size;omega
 have rv:=zH ra;have cF:WF.cell? ⟨m,11,ob⟩=oa (ot Y (I.length+1) c9):=(rowAt pH 11 rfl).1;have se:=zH oS;have sf:(((I.length+1:bw):ct))-1=(I.length:ct):=by omega
 clear pi pj oR qS pk qT pL ra pH oT qs qt ph J oX qu qv rm rn g pD pd pB pf pc qr pb hG pP pS pT pZ;go_wp2;go_ret;exact⟨by go_num,rv.out⟩
theorem vg {S:bh (ap×bw)}{a:ap}{j i:bw}{x:ap×bw}(d:S[j]?=oa x)(f:(x.1==a)=oc)(g:∀q y,j<q->S[q]?=oa y->(y.1==a)=od)(o:j<=i){y:ap×bw}(b:S[i]?=oa y):
  (i=j/\y=x/\(y.1.toList==a.toList)=oc)\/(j<i/\(y.1.toList==a.toList)=od):=by
 rcases Nat.lt_or_eq_of_le o with h|h
 ·exact .inr ⟨h,by rw[<-fR];exact g i y h b⟩
 ·subst h
  rw[d] at b;cases b;exact .inl ⟨rfl,rfl,by rw[<-fR];exact f⟩
theorem jV {m:bw}{p:Pg}{L:bw}{X:Fx}{V:bh Ty}{I:bh dF}{S:bh (ap×bw)}{O:bw->Prop}{s:Sl}(d:ap)(j:bw)(x:ap×bw)(f:S[j]?=oa x)(A:(x.1==d)=oc)(D:∀q y,j<q->S[q]?=oa y->(y.1==d)=od)(w:World)(h:Mk m p L X V I S O s w):
  zS 218 #[ox (oa ⟨m,0,ob⟩),oe d] w (Z U (x.2:ct)):=by
 have G:S≠[]:=by intro e;rw[e] at f;simp at f
 obtain⟨b,R,J,hb,K⟩:=h.seen G;obtain⟨Y,oR,hA2,oT,N⟩:=h.whic G;have oX:w.cell? ⟨m,12,ob⟩=oa (ot (oa ⟨b,R,ob⟩) S.length s.sC):=by rw[<-J];exact(rowAt h.row 12 rfl).1
 have oY:w.cell? ⟨m,13,ob⟩=oa (ot (oa ⟨Y,oR,ob⟩) S.length s.wC):=by rw[<-hA2];exact(rowAt h.row 13 rfl).1
 have hm:=aa h.row;have pb:=h.lS;have pc:j<S.length:=(ca.1 f).1;have g:=zH K;have o:=zH N;have u:cr (∀i y,j<=i->S[i]?=oa y->(i=j/\y=x/\(y.1.toList==d.toList)=oc)\/(j<i/\(y.1.toList==d.toList)=od)):=λi y v a=>vg f A D v a;clear h K N f A D J hA2;go_enter func218,ntmps218;go_wp2
 go_loop [5] (λk=>∃i:bw,k= Z U (i:ct)/\j<=i/\i<S.length) (λk=>(intOf k).toNat)
 case atStart=>exact⟨S.length-1,by rw[show((S.length-1:bw):ct)=(S.length:ct)-1 by omega],by omega,by omega⟩
 case round=>
  obtain⟨i,rfl,oS,v⟩:=hrel;have pd:(i:ct)<(S.length:ct):=by omega
  obtain⟨y,a⟩:∃y,S[i]?=oa y:=⟨_,ce v⟩
  have k0:=g.out i y a 0 _ rfl;have k1:=o.out i y a 0 _ rfl;rw[ix,Nat.mul_one] at k0 k1;rcases u.out i y oS a with⟨rfl,rfl,ht⟩|⟨pf,ht⟩
  ·clear u g o a
   go_wp2;go_ret;exact⟨rfl,rfl⟩
  ·clear u g o a
   go_wp2
   go_round
   case rel=>exact⟨i-1,by rw[show((i-1:bw):ct)=(i:ct)-1 by omega],by omega,by omega⟩
   case measure=>simp[intOf];omega
theorem lJ {m:bw}{p:Pg}{L:bw}{X:Fx}{V:bh Ty}{I:bh dF}{S:bh (ap×bw)}{O:bw->Prop}{s:Sl}(v:bw)(y:Ty)(a:V[v]?=oa y)(w:World)(h:Mk m p L X V I S O s w):
  zP 219 #[ox (oa ⟨m,0,ob⟩),Z U (v:ct)] w (oA #[oy y.1,oe y.2]):=by
 obtain⟨N,f⟩:=zE w.heap.size;obtain⟨j,g⟩:=zE (w.alloc (oB #[oy od,oe ⟨#[]⟩] 32));have o:=gq g f;have q:j.heap[N]?=oa (oB #[oy od,oe ⟨#[]⟩] 32 (0,0)):=by rw[<-g,<-f];exact alloc_at _ _
 have d:Mk m p L X V I S O s j:=h.grow (by rw[f];exact o);have D:V≠[]:=by intro e;rw[e] at a;simp at a
 have oR:v<V.length:=(ca.1 a).1;have oS:(v:ct)<(V.length:ct):=by omega
 obtain⟨b,G,A,hb,u⟩:=bV (cells:=λt:Ty=>#[oy t.1,oe t.2,Z U 0]) (m:=3) (λ_=>rfl) d.vars rfl D;have c6:j.cell? ⟨m,6,ob⟩=oa (ot (oa ⟨b,G,ob⟩) V.length s.vC):=by rw[<-A];exact(rowAt d.row 6 rfl).1
 have hm:=aa d.row;have oT:=d.lV;have J:=u v y a 0 _ rfl;have k1:=u v y a 1 _ rfl;rw[ix] at J;obtain⟨⟨t0,t1⟩,⟨q0,q1⟩,oX⟩:=bg q;have K:=zH g;have R:=zH o;have Y:=zH q;clear h g o q d u A a;go_enter func219,ntmps219
 go_upto_region 1 with(fail)
 rw[K.out];go_wp2;(try simp only[cD,Exit.then]);refine cP (cV (P:=ac) rfl _ _ N 32 _ (0,0) _ rfl (aN Y.out) dg rfl (by kernel_rfl)) rfl ?_;(try rw[f]);exact⟨rfl,(R.out.setCell (by show N<=N;omega) _).setCell (by show N<=N;omega) _⟩
def uI (x:ct)(V:bh Ty):ct:=if 0<=x then x else V.length
def yA (x:ct)(V:bh Ty)(y:Ty):bh Ty:=if 0<=x then V else V++[y]
theorem Mk.same {m:bw}{p:Pg}{L:bw}{X:Fx}{V:bh Ty}{I:bh dF}{S:bh (ap×bw)}{O:bw->Prop}{s:Sl}{w w':World}(h:Mk m p L X V I S O s w)(hb:bj w.heap.size w w'):bB m p L X V I S O w w':=
 ⟨O,s,h.grow hb,(Ext.of_below_size (M:=λ_=>fW) hb).mono (λ_ h=>h.elim),λ_ h=> .inl h⟩
theorem bB.below {m:bw}{p:Pg}{L:bw}{X:Fx}{V:bh Ty}{I:bh dF}{S:bh (ap×bw)}{O:bw->Prop}{w w1 w2:World}(hb:bj w.heap.size w w1)(h:bB m p L X V I S O w1 w2):bB m p L X V I S O w w2:=
 bB.trans ((Ext.of_below_size (M:=λ_=>fW) hb).mono (λ_ h=>h.elim)) (λ_ h=> .inl h) h
theorem mZ {m:bw}{p:Pg}{L:bw}{X:Fx}{V:bh Ty}{I:bh dF}{S:bh (ap×bw)}{O:bw->Prop}{s:Sl}(x:ct)(y:Ty)(w:World)(h:Mk m p L X V I S O s w)(v:V.length+1<=1000):
  et ac 246 #[ox (oa ⟨m,0,ob⟩),Z U x,oA #[oy y.1,oe y.2]] w λe w'=>e= oE (Z U (uI x V))/\bB m p L X (yA x V y) I S O w w':=by
 obtain⟨N,a⟩:=zE w.heap.size;obtain⟨b,d⟩:=zE (w.alloc (oB #[oy y.1,oe y.2] 32));have f:=gq d a;have j:b.heap[N]?=oa (oB #[oy y.1,oe y.2] 32 (0,0)):=by rw[<-d,<-a];exact alloc_at _ _
 have o:Mk m p L X V I S O s b:=h.grow (by rw[a];exact f);have A:=zH (jr y b o v);have D:cr (bB m p L X V I S O w b):=h.same (by rw[a];exact f);have G:cr (bj w.heap.size w b):=by rw[a];exact f
 obtain⟨⟨t0,t1⟩,⟨K,R⟩,Y⟩:=bg j;have q:=zH d;unfold uI yA;clear h d f j o
 by_cases g:0<=x
 ·rw[cQ g,cQ g]
  go_enter func246,ntmps246
  go_upto_region 1 with(fail)
  rw[q.out];go_wp2;go_ret;exact⟨rfl,D.out⟩
 ·rw[cy g,cy g]
  have oR:x<0:=by omega
  go_enter func246,ntmps246
  go_upto_region 1 with(fail)
  rw[q.out]
  go_wp2_with (go_at_call 131;refine A.out.mono ?_;rintro e w2 ⟨rfl,u⟩;have J:=zH (u.below G.out);clear u)
  go_ret;exact⟨rfl,J.out⟩
end Go.Proofs.YtjomgckjhcfbgaaGreat
