/- Walks. -/
import Derived.Laws.IdiomCopy
import Derived.Sort.LoopGhostIn
import Derived.Sort.QuietIn
import Derived.Test.YtjomgckjhcfbgaaGreatX9
set_option maxRecDepth 100000
set_option maxHeartbeats 64000000
set_option linter.all false
namespace Go.Proofs.YtjomgckjhcfbgaaGreat
open Go.RowKit
open Go.Proofs.Tryz renaming prog→ac,underlying184→cq,underlying38→cy,underlying25→ey,underlying90→ms
open _root_.List renaming getElem?_eq_getElem→am,setIfInBounds_toArray→ap,set_cons_zero→bj,set_cons_succ→bk,getElem?_eq_some_iff→bl,mem_of_getElem?→ce,mem_append→cC,take_length→cT,mem_map→dd,flatMap_cons→dp,drop_eq_getElem_cons→dT,nil_append→ej,mem_flatMap→er,append_assoc→eE,length_cons→eI,map_append→eS,all_eq_true→gC,cons_append→gE,any_eq_true→ju,map_cons→kc,append_nil→kh,length_nil→ki,any_eq_false→kp,all_eq_false→lk,mem_cons_of_mem→m5
open Go.RowKit.Below renaming refl→an,mono→m9
open Go.RowKit renaming Below→aq,Hid→ca
open _root_ renaming ByteArray→aw,List→bm,Nat→cd,Int→cj,decide_eq_false→cv,if_neg→cw,Array→cG,if_pos→cI,beq_eq_false_iff_ne→cR,Option→du,decide_eq_true→dy,absurd→fL,False→jp
open _root_.Array renaming getElem?_eq_some_iff→bb,all_toList→iv
open Go renaming cell_of_row→bh,wpList_load_row→bo,Value→bw,run_storeCells_new→cf,storeCells→cU,bodyPost_ret→da,frozen_of_row→dg,maxLen→dl,results_none→eR,Calls→ft,TypeId→ge,heap_setCell_same→gR,wpListIn_nil→ip,bodyPost_end→j9,wpIn_region_lit→lB,wpIn_wide→nh,Addr→oA,results→pN
open _root_.Nat renaming le_refl→bp,le_trans→cE,zero_le→cJ
open Go.Value renaming oneCell'→br,string→qT,slice→ra,pointer→rb,bool→re,agg→rh,int→Z
open Go.Exit renaming inBlock→cL,noGoto_ret→ii
open Go.Addr renaming add_lit→cM
open Go.Act renaming put→cV
open _root_.Option.some renaming inj→cX
open _root_.Int renaming toNat_natCast→ep
open Go.Fence renaming wide→fj
open _root_.Option renaming some→qt,none→qu
open _root_.Bool renaming true→qv,false→qS
open Go.Obj renaming cells→rj
open Go.Ending renaming returned→rk
open Go.IntKind renaming i64→U
open Tryz
theorem mF (s:St):(s.cells.all λx=>x.oneCell')=qv:=by
 rw[<-iv];simp[St.cells,Be.cells,br]
theorem mG (s:Fd):(s.cells.all λx=>x.oneCell')=qv:=by
 rw[<-iv];simp[Fd.cells,br]
theorem ek (f:Fn):(f.cells.all λx=>x.oneCell')=qv:=by
 rw[<-iv];simp[Fn.cells,nJ.cells,br]
theorem iY {α:Type}{l:bm α}{j:cd}{x:α}(f:α->aw)(h:l[j]?=qt x):(l.take (j+1)).map f=(l.take j).map f++[f x]:=by
 rw[cZ h,eS];rfl
theorem eY.grown {w w':World}{B base:cd}{v:bw}{xs:bm aw}(d:eY w base v xs)(f:w.grownBy w' v.ownBlock)(h:B<=base)(o:B<=w.heap.size):aq B w w':=
 (an B w).grown f o (λk q=>cE h (d.lt k q).1)
theorem wT (m:Mo)(w:World)(h:m.inn w)(hs:m.ss.length<=90000)(hf:m.fs.length<=90000)(sX:∀s∈m.ss,s.fs.length<=90000):
  zP 94 #[rh m.cells] w (re (bX m)):=by
 have HM:=zH h;have wb:=zH sX;obtain⟨R,hR⟩:=zE (bX m);have HR:ca (R=((m.ss.any λs=>decide (¬(s.fs.map Fd.nm).Nodup))||decide (¬(m.ss.map λs=>s.s.nm).Nodup)||decide (¬(m.fs.map λf=>f.c.nm).Nodup))):=hR.symm;rw[hR];clear h sX hR;obtain⟨N,hN⟩:=zE w.heap.size;obtain⟨W1,tj⟩:=zE (w.alloc (rj m.cells 25));have ux:=gQ tj hN;have va:W1.heap.size=N+1:=by rw[<-tj];simp[hN]
 have vc:W1.heap[N]?=qt (rj m.cells 25 (0,0)):=by rw[<-tj,<-hN];exact alloc_at _ _
 have HK:ca (∀W,aq (N+1) W1 W->W.cell? ⟨N,0,qu⟩=qt (ra m.sA m.ss.length m.sC)/\W.cell? ⟨N,1,qu⟩=qt (ra m.fA m.fs.length m.fC)/\N<W.heap.size):=λW hW=>by
  have q:=(hW.block N (by omega)).trans vc;exact⟨by rw[bh _ _ _ _ _ _ q];rfl,by rw[bh _ _ _ _ _ _ q];rfl,(bb.1 q).1⟩
 have tl:=zH ux;have HN:=zH hN;obtain⟨k0,k1,xF⟩:=HK.out W1 (an _ _);clear ux vc;go_enter func94,ntmps94
 go_wp2_with fail
 go_loopw [3,15] (λv c wr=>∃(j:cd) (K:du oA) (cap:cd),j<=m.ss.length/\c= Z U (j:cj)/\v= ra K ((m.ss.take j).map λs=>s.s.nm).length cap/\eY wr (N+1) v ((m.ss.take j).map λs=>s.s.nm)/\(∀s∈m.ss.take j,(s.fs.map Fd.nm).Nodup)/\aq (N+1) W1 wr) (λ_ c _=>m.ss.length-(intOf c).toNat)
 case atStart=>exact⟨0,qu,0,cJ _,rfl,rfl,eY.nil _ _,by simp,an _ _⟩
 case round=>
  clear k0 k1;obtain⟨j,K,cap,hj,rfl,rfl,tm,tn,hb⟩:=hrel;have HB:=zH hb;have sf:=zH tm;have sY:=zH tn;obtain⟨k0,k1,xT⟩:=HK.out wr hb;have we:N+1<=wr.heap.size:=by omega
  have tp:ca (aq N w wr):=tl.out.trans (hb.mono (by omega))
  by_cases tr:j<m.ss.length
  ·obtain⟨s,te⟩:∃s,m.ss[j]?=qt s:=⟨_,am tr⟩
   have sn:=ce te;have tf:=HM.out.sin s sn;obtain⟨b0,vd,hA,wg,vf⟩:=HM.out.srow (by intro e;rw[e] at tr;simp at tr);have wi:b0<N:=by omega
   have wj:ca (∀k u,s.cells.toList[k]?=qt u->wr.cell? ((⟨b0,vd+j*4,qu⟩:oA).add k)=qt u):=λk u hu=>by
    rw[cM,tp.out.cell (p:=⟨b0,_,qu⟩) wi];exact vf j s te k u hu
   obtain⟨M,hM⟩:=zE wr.heap.size;obtain⟨W2,sk⟩:=zE (wr.alloc (rj s.cells 90));have hst:∀(c:cG bw),c.size=4->(cU ⟨M,0,qu⟩ s.cells.toList 0).run ac (wr.alloc (rj c 90))= .ok () W2:=λc hc=>by
    rw[<-sk,<-hM];exact cf (P:=ac) wr 90 c s.cells (by show _=qt 4;kernel_rfl) hc (mF s)
   have vh:W2.heap[M]?=qt (rj s.cells 90 (0,0)):=by rw[<-sk,<-hM];exact alloc_at _ _
   have ya:W2.heap.size=M+1:=by rw[<-sk];simp[hM]
   have tt:ca (aq (N+1) W1 W2):=by rw[<-sk];exact HB.out.alloc we _
   have vi:ca (eY W2 (N+1) (ra K ((m.ss.take j).map λs=>s.s.nm).length cap) ((m.ss.take j).map λs=>s.s.nm)):=by rw[<-sk];exact sf.out.below ((an _ _).alloc (bp _) _)
   have tv:ca (∀W,aq (M+1) W2 W->W.cell? ⟨M,0,qu⟩=qt (qT s.s.nm)/\W.cell? ⟨M,1,qu⟩=qt (ra s.s.fA s.fs.length s.s.fC)/\M<W.heap.size):=λW hW=>by
    have q:=(hW.block M (by omega)).trans vh;exact⟨by rw[bh _ _ _ _ _ _ q];rfl,by rw[bh _ _ _ _ _ _ q,<-tf.nf];rfl,(bb.1 q).1⟩
   obtain⟨m0,m1,yb⟩:=tv.out W2 (an _ _);have wk:ca (aH Fd.cells 5 w w.heap.size s.s.fA s.fs):=tf.row;have wl:ca (∀f∈s.fs,f.nm.size<=dl):=tf.fnm;have sX:=wb.out s sn;have tz:=zH te;have yd:(j:cj)<(m.ss.length:cj):=by omega
   obtain⟨o,rm⟩:=zE ((m.ss.take j).map λs=>s.s.nm);have tA:o.length<=90000:=by rw[<-rm];simp;omega
   rw[rm] at vi⊢;have wn:=zH rm;rw[hA] at k0⊢;clear hb tm tn sf sn tf wg vf te vh sk rm
   go_upto_region 7 with(refine az rfl 90 _ rfl ⟨b0,vd+j*4,qu⟩ rfl s.cells _ wj.out ms rfl (by kernel_rfl) ?_)
   go_loopw [7,22] (λv c wq=>∃(q:cd) (K:du oA) (cap:cd),q<=s.fs.length/\c= Z U (q:cj)/\v= ra K ((s.fs.take q).map Fd.nm).length cap/\eY wq (M+1) v ((s.fs.take q).map Fd.nm)/\aq (M+1) W2 wq) (λ_ c _=>s.fs.length-(intOf c).toNat)
   case atStart=>exact⟨0,qu,0,cJ _,rfl,rfl,eY.nil _ _,an _ _⟩
   case round=>
    obtain⟨q,rn,rr,hq,rfl,rfl,rI,A⟩:=hrel;have rK:=zH A;have D:=zH rI;have sq:M+1<=wr.heap.size:=by have:=A.size;omega
    clear m0 m1 k0 k1;obtain⟨m0,m1,_⟩:=tv.out _ A
    by_cases rL:q<s.fs.length
    ·obtain⟨f,rN⟩:∃f,s.fs[q]?=qt f:=⟨_,am rL⟩
     obtain⟨fb,sr,tB,tD,sx⟩:=wk.out (by intro e;rw[e] at rL;simp at rL);have tE:fb<N:=by omega
     have tG:ca (aq N w wr):=tl.out.trans ((tt.out.trans (A.mono (by omega))).mono (by omega));have tM:ca (∀k u,f.cells.toList[k]?=qt u->wr.cell? ((⟨fb,sr+q*5,qu⟩:oA).add k)=qt u):=λk u hu=>by
      rw[cM,tG.out.cell (p:=⟨fb,_,qu⟩) tE];exact sx q f rN k u hu
     obtain⟨P,hP⟩:=zE wr.heap.size;obtain⟨W3,y⟩:=zE (wr.alloc (rj f.cells 92));have ws:∀(c:cG bw),c.size=5->(cU ⟨P,0,qu⟩ f.cells.toList 0).run ac (wr.alloc (rj c 92))= .ok () W3:=λc hc=>by
      rw[<-y,<-hP];exact cf (P:=ac) wr 92 c f.cells (by show _=qt 5;kernel_rfl) hc (mG f)
     have sy:W3.heap[P]?=qt (rj f.cells 92 (0,0)):=by rw[<-y,<-hP];exact alloc_at _ _
     have tP:W3.heap.size=P+1:=by rw[<-y];simp[hP]
     have p0:=zR sy 0 (qT f.nm);have tR:ca (aq (M+1) W2 W3):=by rw[<-y];exact rK.out.alloc sq _
     have rS:ca (eY W3 (M+1) (ra rn ((s.fs.take q).map Fd.nm).length rr) ((s.fs.take q).map Fd.nm)):=by rw[<-y];exact D.out.below ((an _ _).alloc (bp _) _)
     have tS:=zH rN;have wx:(q:cj)<(s.fs.length:cj):=by omega
     obtain⟨XQ,rv⟩:=zE ((s.fs.take q).map Fd.nm);have tU:XQ.length<=90000:=by rw[<-rv];simp;omega
     have tW:=zH rv;rw[tB];rw[rv] at rS⊢;clear A rI D rN tD sx sy y rv
     go_wp2_with (first
      |(refine az rfl 92 _ rfl ⟨fb,sr+q*5,qu⟩ rfl f.cells _ tM.out underlying92 rfl (by kernel_rfl) ?_)
      |(at_builtin;refine fF rfl (.tmp 26) (.tmp 29) rfl (M+1) (ra rn XQ.length rr) XQ rfl (rS.out.below ((an _ _).alloc (bp _) _)) ⟨P+1,0,qu⟩ f.nm 1 rfl ?c0 tU ?c1 ?_))
     case c0=>rw[<-tP,World.cell?_alloc_new];rfl
     case c1=>rw[World.size_alloc];omega
     intro v5 w5 rx sB;obtain⟨X5,se⟩:=zE (XQ++[f.nm]);rw[se] at rx;obtain⟨sE,sL,rfl⟩:=rx.isSlice;have sR:ca (X5=(s.fs.take (q+1)).map Fd.nm):=by unfold ca;rw[iY Fd.nm tS.out,tW.out,se]
     have ua:ca (aq (M+1) W2 w5):=(tR.out.alloc (by omega) _).trans (eY.grown (rS.out.below ((an _ _).alloc (bp _) _)) sB (bp _) (by simp;omega));have ub:ca (eY w5 (M+1) (ra sE X5.length sL) X5):=rx;clear rx sB se;go_wp2;go_roundw
     case rel=>exact⟨q+1,sE,sL,by omega,by go_num,by rw[<-sR.out],by rw[<-sR.out];exact ub.out,ua.out⟩
     case measure=>simp[intOf];omega
    ·have uc:q=s.fs.length:=by omega
     subst uc;rw[cT] at D⊢;obtain⟨XF,rB⟩:=zE (s.fs.map Fd.nm);have th:ca (zP 133 #[ra rn XF.length rr] wr (re (decide (¬XF.Nodup)))):=by
      rw[<-rB];exact iX wr rr rn (s.fs.map Fd.nm) (by simp;exact sX) (λx hx=>by
       obtain⟨f,ud,rfl⟩:=dd.1 hx;exact wl.out f ud) D.out.at_
     rw[rB];have vj:=zH rB;clear rB D;obtain⟨d,hd⟩:=zE (decide (¬XF.Nodup));rw[hd] at th;have HD:=zH hd;clear hd rI A;cases d with
     |true=>
      have xf:ca (R=qv):=by
       unfold ca;rw[HR.out,ju.2 ⟨s,ce tz.out,by rw[vj.out];exact HD.out⟩];rfl
      go_wp2_with (go_at_call 133;refine th.out.mono ?_;rintro e w6 ⟨rfl,rl⟩;have G:=zH rl;clear rl)
      go_ret;rw[xf.out]
      try rw[HN.out]
      exact⟨rfl,tl.out.trans ((tt.out.trans ((rK.out.trans (G.out.mono sq)).mono (by omega))).mono (by omega))⟩
     |false=>
      have xj:ca ((s.fs.map Fd.nm).Nodup):=by
       unfold ca;rw[vj.out];exact Decidable.of_not_not (of_decide_eq_false HD.out)
      go_upto_region 13 with(go_at_call 133;refine th.out.mono ?_;rintro e w6 ⟨rfl,rl⟩;have G:ca (aq (M+1) W2 w6):=rK.out.trans (rl.mono sq);clear rl)
      obtain⟨n0,_,_⟩:=tv.out w6 G.out;have ye:M+1<=w6.heap.size:=by have:=G.out.size;omega
      have vm:ca (eY w6 (N+1) (ra K o.length cap) o):=by
       refine vi.out.below (m9 G.out ?_);omega
      clear m0 m1 th
      go_wp2_with (at_builtin;refine fF rfl (.tmp 34) (.tmp 37) rfl (N+1) (ra K o.length cap) o rfl (vm.out.below ((an _ _).alloc (bp _) _)) ⟨w6.heap.size,0,qu⟩ s.s.nm 1 rfl ?c0 tA ?c1 ?_)
      case c0=>rw[World.cell?_alloc_new];rfl
      case c1=>rw[World.size_alloc];omega
      intro v7 w7 ti vn;obtain⟨X7,ue⟩:=zE (o++[s.s.nm]);rw[ue] at ti;obtain⟨vp,vq,rfl⟩:=ti.isSlice;have vr:ca (X7=(m.ss.take (j+1)).map λs=>s.s.nm):=by unfold ca;rw[iY (λs:St=>s.s.nm) tz.out,wn.out,ue]
      have ur:ca (aq (N+1) W1 w7):=((tt.out.trans (G.out.mono (by omega))).alloc (by omega) _).trans (eY.grown (vm.out.below ((an _ _).alloc (bp _) _)) vn (bp _) (by simp;omega));have xl:ca (eY w7 (N+1) (ra vp X7.length vq) X7):=ti;clear ti vn ue;go_wp2;go_roundw
      case rel=>exact⟨j+1,vp,vq,by omega,by go_num,by rw[<-vr.out],by rw[<-vr.out];exact xl.out,bY (p:=λs:St=>(s.fs.map Fd.nm).Nodup) sY.out tz.out xj.out,ur.out⟩
      case measure=>simp[intOf];omega
  ·have xo:j=m.ss.length:=by omega
   subst xo;rw[cT] at sf sY⊢;obtain⟨o,rm⟩:=zE (m.ss.map λs=>s.s.nm);have tA:o.length<=90000:=by rw[<-rm];simp;omega
   rw[rm] at sf⊢;have sT:ca (R=(decide (¬o.Nodup)||decide (¬(m.fs.map λf=>f.c.nm).Nodup))):=by
    unfold ca;rw[HR.out,rm];have e:(m.ss.any λs=>decide (¬(s.fs.map Fd.nm).Nodup))=qS:=by
     rw[kp];intro s sn;have:=sY.out s sn;simpa using this
    rw[e,Bool.false_or]
   have xp:ca (∀x∈o,x.size<=dl):=λx hx=>by
    rw[<-rm] at hx;obtain⟨s,va,rfl⟩:=dd.1 hx;exact(HM.out.sin s va).nm
   clear hb tm tn sY HR rm
   go_upto_region 16 with(fail)
   obtain⟨J,xr⟩:∃J,J=wr:=⟨_,rfl⟩
   subst xr
   go_loopw [4,43] (λv c wq=>∃(q:cd) (K:du oA) (cap:cd),q<=m.fs.length/\c= Z U (q:cj)/\v= ra K ((m.fs.take q).map λf=>f.c.nm).length cap/\eY wq J.heap.size v ((m.fs.take q).map λf=>f.c.nm)/\aq J.heap.size J wq) (λ_ c _=>m.fs.length-(intOf c).toNat)
   case atStart=>exact⟨0,qu,0,cJ _,rfl,rfl,eY.nil _ _,an _ _⟩
   case round=>
    obtain⟨q,rn,rr,hq,rfl,rfl,rI,A⟩:=hrel;have rK:=zH A;have D:=zH rI;have sq:=A.size;clear k0 k1
    by_cases rL:q<m.fs.length
    ·obtain⟨f,rN⟩:∃f,m.fs[q]?=qt f:=⟨_,am rL⟩
     obtain⟨fb,sr,tB,tD,sx⟩:=HM.out.frow (by intro e;rw[e] at rL;simp at rL);have tE:fb<N:=by omega
     have tG:ca (aq N w wr):=tp.out.trans (A.mono (by omega));have tM:ca (∀k u,f.cells.toList[k]?=qt u->wr.cell? ((⟨fb,sr+q*8,qu⟩:oA).add k)=qt u):=λk u hu=>by
      rw[cM,tG.out.cell (p:=⟨fb,_,qu⟩) tE];exact sx q f rN k u hu
     obtain⟨P,hP⟩:=zE wr.heap.size;obtain⟨W3,y⟩:=zE (wr.alloc (rj f.cells 38));have ws:∀(c:cG bw),c.size=8->(cU ⟨P,0,qu⟩ f.cells.toList 0).run ac (wr.alloc (rj c 38))= .ok () W3:=λc hc=>by
      rw[<-y,<-hP];exact cf (P:=ac) wr 38 c f.cells (by show _=qt 8;kernel_rfl) hc (ek f)
     have sy:W3.heap[P]?=qt (rj f.cells 38 (0,0)):=by rw[<-y,<-hP];exact alloc_at _ _
     have tP:W3.heap.size=P+1:=by rw[<-y];simp[hP]
     have p0:=zR sy 0 (qT f.c.nm);have tR:ca (aq J.heap.size J W3):=by rw[<-y];exact rK.out.alloc sq _
     have rS:ca (eY W3 J.heap.size (ra rn ((m.fs.take q).map λf=>f.c.nm).length rr) ((m.fs.take q).map λf=>f.c.nm)):=by rw[<-y];exact D.out.below ((an _ _).alloc (bp _) _)
     have tS:=zH rN;have wx:(q:cj)<(m.fs.length:cj):=by omega
     obtain⟨XQ,rv⟩:=zE ((m.fs.take q).map λf=>f.c.nm);have tU:XQ.length<=90000:=by rw[<-rv];simp;omega
     have tW:=zH rv;rw[tB];rw[rv] at rS⊢;clear A rI D rN tD sx sy y rv
     go_wp2_with (first
      |(refine az rfl 38 _ rfl ⟨fb,sr+q*8,qu⟩ rfl f.cells _ tM.out cy rfl (by kernel_rfl) ?_)
      |(at_builtin;refine fF rfl (.tmp 47) (.tmp 50) rfl J.heap.size (ra rn XQ.length rr) XQ rfl (rS.out.below ((an _ _).alloc (bp _) _)) ⟨P+1,0,qu⟩ f.c.nm 1 rfl ?c0 tU ?c1 ?_))
     case c0=>rw[<-tP,World.cell?_alloc_new];rfl
     case c1=>rw[World.size_alloc];omega
     intro v5 w5 rx sB;obtain⟨X5,se⟩:=zE (XQ++[f.c.nm]);rw[se] at rx;obtain⟨sE,sL,rfl⟩:=rx.isSlice;have sR:ca (X5=(m.fs.take (q+1)).map λf=>f.c.nm):=by unfold ca;rw[iY (λf:Fn=>f.c.nm) tS.out,tW.out,se]
     have ua:ca (aq J.heap.size J w5):=(tR.out.alloc (by omega) _).trans (eY.grown (rS.out.below ((an _ _).alloc (bp _) _)) sB (bp _) (by simp;omega));have ub:ca (eY w5 J.heap.size (ra sE X5.length sL) X5):=rx;clear rx sB se;go_wp2;go_roundw
     case rel=>exact⟨q+1,sE,sL,by omega,by go_num,by rw[<-sR.out],by rw[<-sR.out];exact ub.out,ua.out⟩
     case measure=>simp[intOf];omega
    ·have uc:q=m.fs.length:=by omega
     subst uc;rw[cT] at D⊢;obtain⟨XF,rB⟩:=zE (m.fs.map λf=>f.c.nm);rw[rB] at D sT⊢;have vt:∀x∈XF,x.size<=dl:=λx hx=>by
      rw[<-rB] at hx;obtain⟨f,ud,rfl⟩:=dd.1 hx;exact(HM.out.fin f ud).nm
     have xt:XF.length<=90000:=by rw[<-rB];simpa using hf
     have uv:ca (zP 133 #[ra K o.length cap] wr (re (decide (¬o.Nodup)))):=
      iX wr cap K o tA xp.out ((sf.out.below rK.out).at_)
     have vu:ca (∀W,aq wr.heap.size wr W->zP 133 #[ra rn XF.length rr] W (re (decide (¬XF.Nodup)))):=λW hW=>
      iX W rr rn XF xt vt ((D.out.below hW).at_)
     obtain⟨d,hd⟩:=zE (decide (¬o.Nodup));obtain⟨d2,vx⟩:=zE (decide (¬XF.Nodup));rw[hd] at uv sT;rw[vx] at vu sT;have vy:ca (aq N w wr):=tp.out.trans (rK.out.mono (by omega));clear rI A rB vt D sf hd vx;cases d with
     |true=>
      go_wp2_with (go_at_call 133;refine uv.out.mono ?_;rintro e w6 ⟨rfl,rl⟩;have G:=zH rl;clear rl)
      go_ret;rw[sT.out]
      try rw[HN.out]
      exact⟨rfl,vy.out.trans (G.out.mono (by omega))⟩
     |false=>
      go_upto_region 20 with(fail)
      go_wp2_with (first
       |(go_at_call 133;refine(vu.out _ G.out).mono ?_;rintro e w7 ⟨rfl,wa⟩;have ur:=zH wa;clear wa)
       |(go_at_call 133;refine uv.out.mono ?_;rintro e w6 ⟨rfl,rl⟩;have G:=zH rl;clear rl))
      go_ret;rw[sT.out]
      try rw[HN.out]
      exact⟨rfl,(vy.out.trans (G.out.mono (by omega))).trans (ur.out.mono (by have:=G.out.size;omega))⟩
def sZ (t:Ty):cG bw:=#[rh #[re t.1,qT t.2]]
def lD (N B:cd)(k:cd):Prop:=k<N\/k=B
def El (f:Fn):bm Ty:=f.ret::f.vs.map Vr.ty
def Em (s:St):bm Ty:=s.fs.map Fd.ty
def jK (m:Mo)(j:cd):bm Ty:=(m.fs.drop j).flatMap El
def jY (m:Mo)(j:cd):bm Ty:=(m.ss.drop j).flatMap Em++jK m 0
theorem wU (m:Mo):bE m=jY m 0:=rfl
theorem yz {m:Mo}{j:cd}{s:St}(h:m.ss[j]?=qt s):jY m j=(s.fs.drop 0).map Fd.ty++jY m (j+1):=by
 obtain⟨d,e⟩:=bl.1 h;unfold jY;rw[dT d,e,dp,eE];rfl
theorem Ar (m:Mo):jY m m.ss.length=jK m 0:=by
 unfold jY;simp
theorem yB {m:Mo}{j:cd}{f:Fn}(h:m.fs[j]?=qt f):jK m j=f.ret::((f.vs.drop 0).map Vr.ty++jK m (j+1)):=by
 obtain⟨d,e⟩:=bl.1 h;unfold jK;rw[dT d,e,dp];rfl
theorem Au (m:Mo):jK m m.fs.length=[]:=by
 unfold jK;simp
theorem kZ {α:Type}{l:bm α}{q:cd}{x:α}(f:α->Ty)(h:l[q]?=qt x):(l.drop q).map f=f x::(l.drop (q+1)).map f:=by
 obtain⟨d,e⟩:=bl.1 h;rw[dT d,e,kc]
theorem mH {α:Type}(l:bm α)(f:α->Ty):(l.drop l.length).map f=[]:=by simp
theorem uS (f:Vr):(f.cells.all λx=>x.oneCell')=qv:=by
 rw[<-iv];simp[Vr.cells,br]
theorem pO {d r:bm Ty}{x:Ty}{xs:bm Ty}(h:xs=d++x::r):(d++[x])<+:xs/\xs=(d++[x])++r:=by
 subst h;exact⟨⟨r,by simp⟩,by simp⟩
theorem wV (w0 w:World)(m:Mo)(B:cd)(h:m.inn w0)(hb:aq w0.heap.size w0 w)(hB:w.heap[B]?=qt (rj m.cells 25 (0,0)))(te:∀s∈m.ss,s.fs.length<=90000)(tf:∀f∈m.fs,f.vs.length<=90000)(wi:m.ss.length<=90000)(wj:m.fs.length<=90000):
  Iter ac 134 #[rb (qt ⟨B,0,qu⟩)] sZ (bE m) (lD w0.heap.size B) w:=by
 intro l J Jx C W th hst tG hstx tM hJ;have sX:=zH hst;have sn:=zH tG;have HM:=zH tM;have HJ:=zH hJ;have ue:=zH te;have ur:=zH tf;have tP:W.heap[B]?=qt (rj m.cells 25 (0,0)):=(th.block B (bb.1 hB).1).trans hB;obtain⟨N,hN⟩:=zE w0.heap.size;rw[hN] at sn;have HR:ca (∀G,Ext (λk=>¬lD N B k) W G->G.cell? ⟨B,0,qu⟩=qt (ra m.sA m.ss.length m.sC)/\G.cell? ⟨B,1,qu⟩=qt (ra m.fA m.fs.length m.fC)/\m.inn G/\B<G.heap.size):=by
  intro G hx;have q:=hx.heap tP (λh=>h (.inr rfl));refine⟨by rw[bh _ _ _ _ _ _ q];rfl,by rw[bh _ _ _ _ _ _ q];rfl, ?_,(bb.1 q).1⟩;have b1:aq w0.heap.size w0 W:=hb.trans (th.mono hb.size);have b2:aq N W G:=hx.below (by rw[<-hN];exact b1.size) (λk hk=>by
   by_cases e:k<N
   ·exact fL (.inl e) hk
   ·omega)
  exact h.below (b1.trans (by rw[hN];exact b2))
 obtain⟨D,ti⟩:=zE (bE m);rw[ti] at HM⊢;have uv:ca (D=jY m 0):=by rw[<-ti];exact wU m
 obtain⟨c0,c1,_,wk⟩:=HR.out W (Ext.refl _ _);clear hst tG hstx tM hJ h hb hB th tP ti hN te tf
 show ft _ _ #[.func (.yield l) #[] #[],rb (qt ⟨B,0,qu⟩)] _ _
 go_enter func134,ntmps134
 go_wp2_with fail
 go_loopw [14] (λc wr=>∃(j:cd) (d:bm Ty) (C:cd->Prop),j<=m.ss.length/\c= Z U (j:cj)/\D=d++jY m j/\J d C wr/\Ext (λk=>¬lD N B k) W wr) (λc _=>m.ss.length-(intOf c).toNat)
 case atStart=>exact⟨0,[],C,cJ _,rfl,uv.out,HJ.out,Ext.refl _ _⟩
 case round=>
  clear c0 c1;obtain⟨j,d,C1,hj,rfl,K,rL,rr⟩:=hrel;have sq:=zH rr;have rN:=zH rL;have wl:=zH K;obtain⟨c0,c1,rv,wn⟩:=HR.out wr rr
  by_cases rS:j<m.ss.length
  ·obtain⟨s,hs⟩:∃s,m.ss[j]?=qt s:=⟨_,am rS⟩
   have tj:=ce hs;have tR:=rv.sin s tj;obtain⟨b0,tS,hA,ux,tU⟩:=rv.srow (by intro e;rw[e] at rS;simp at rS);have va:ca (∀k u,s.cells.toList[k]?=qt u->wr.cell? ((⟨b0,tS+j*4,qu⟩:oA).add k)=qt u):=λk u hu=>by
    rw[cM];exact tU j s hs k u hu
   obtain⟨M,hM⟩:=zE wr.heap.size;obtain⟨W2,sr⟩:=zE (wr.alloc (rj s.cells 90));have hst:∀(c:cG bw),c.size=4->(cU ⟨M,0,qu⟩ s.cells.toList 0).run ac (wr.alloc (rj c 90))= .ok () W2:=λc hc=>by
    rw[<-sr,<-hM];exact cf (P:=ac) wr 90 c s.cells (by show _=qt 4;kernel_rfl) hc (mF s)
   have tl:W2.heap[M]?=qt (rj s.cells 90 (0,0)):=by rw[<-sr,<-hM];exact alloc_at _ _
   have m1:W2.cell? ⟨M,1,qu⟩=qt (ra s.s.fA s.fs.length s.s.fC):=by rw[bh _ _ _ _ _ _ tl,<-tR.nf];rfl
   have ws:M<W2.heap.size:=(bb.1 tl).1;have vc:ca (Ext (λk=>¬lD N B k) W W2):=by rw[<-sr];exact sq.out.alloc _
   have vd:ca (J d C1 W2):=by rw[<-sr];exact sX.out _ _ _ _ rN.out ((Ext.refl _ _).alloc _)
   have tW:D=d++((s.fs.drop 0).map Fd.ty++jY m (j+1)):=by rw[K,yz hs]
   have vf:=zH tW;have HS:=zH hs;have te:=ue.out s tj;have vh:(j:cj)<(m.ss.length:cj):=by omega
   rw[hA] at c0⊢;clear rr rL K tR ux tU hs tl sr tW rv
   go_upto_region 4 with(refine az rfl 90 _ rfl ⟨b0,tS+j*4,qu⟩ rfl s.cells _ va.out ms rfl (by kernel_rfl) ?_)
   go_loopw [21] (λc wq=>∃(q:cd) (d:bm Ty) (C:cd->Prop),q<=s.fs.length/\c= Z U (q:cj)/\D=d++((s.fs.drop q).map Fd.ty++jY m (j+1))/\J d C wq/\Ext (λk=>¬lD N B k) W wq) (λc _=>s.fs.length-(intOf c).toNat)
   case atStart=>exact⟨0,d,C1,cJ _,rfl,vf.out,vd.out,vc.out⟩
   case round=>
    clear m1 c0 c1;obtain⟨q,pq,C2,hq,rfl,rl,se,rx⟩:=hrel;have sx:=zH rx;have sy:=zH se;obtain⟨_,_,tm,_⟩:=HR.out wr rx
    by_cases sf:q<s.fs.length
    ·obtain⟨f,hf⟩:∃f,s.fs[q]?=qt f:=⟨_,am sf⟩
     obtain⟨fb,sB,tn,tp,sE⟩:=(tm.sin s tj).row (by intro e;rw[e] at sf;simp at sf);have tr:ca (∀k u,f.cells.toList[k]?=qt u->wr.cell? ((⟨fb,sB+q*5,qu⟩:oA).add k)=qt u):=λk u hu=>by
      rw[cM];exact sE q f hf k u hu
     obtain⟨P,hP⟩:=zE wr.heap.size;obtain⟨o,rm⟩:=zE (wr.alloc (rj f.cells 92));have vi:∀(c:cG bw),c.size=5->(cU ⟨P,0,qu⟩ f.cells.toList 0).run ac (wr.alloc (rj c 92))= .ok () o:=λc hc=>by
      rw[<-rm,<-hP];exact cf (P:=ac) wr 92 c f.cells (by show _=qt 5;kernel_rfl) hc (mG f)
     have rn:o.heap[P]?=qt (rj f.cells 92 (0,0)):=by rw[<-rm,<-hP];exact alloc_at _ _
     have p1:=zR rn 1 (re f.ptr);have p2:=zR rn 2 (qT f.tgt);have vj:P<o.heap.size:=(bb.1 rn).1;have tt:ca (Ext (λk=>¬lD N B k) W o):=by rw[<-rm];exact sx.out.alloc _
     have sk:J pq C2 o:=by rw[<-rm];exact sX.out _ _ _ _ sy.out ((Ext.refl _ _).alloc _)
     have tv:=zH sk;have rI:D=pq++f.ty::((s.fs.drop (q+1)).map Fd.ty++jY m (j+1)):=by rw[rl,kZ Fd.ty hf];rfl
     have HP:=zH (pO rI);have R:=zH (HM.out pq f.ty C2 o sk HP.out.1);unfold sZ at R;simp only[Fd.ty] at R;have vm:(q:cj)<(s.fs.length:cj):=by omega
     rw[tn];clear rx se rl hf tp sE rn rm sk rI tm
     go_upto_region 6 with(refine az rfl 92 _ rfl ⟨fb,sB+q*5,qu⟩ rfl f.cells _ tr.out underlying92 rfl (by kernel_rfl) ?_)
     refine(nh (n:=0)).1 ?_;refine lB (aA rfl (by simp) (.func (.yield l) #[] #[]) (w':=o) (by simp[go_sem]) ?_);simp only[cV,ap,bj,bk];refine aA rfl (by simp) (rb (qt ⟨P,1,qu⟩)) (w':=o) (by simp[go_sem]) ?_;simp only[cV,ap,bj,bk];refine aA rfl (by simp) (rh #[re f.ptr,qT f.tgt]) (w':=o) (by simp[go_sem,p1,p2]) ?_;simp only[cV,ap,bj,bk];refine fe (fv:= .func (.yield l) #[] #[]) (args:=#[rh #[re (f.ptr,f.tgt).1,qT (f.ptr,f.tgt).2]]) rfl (.tmp 25) #[.tmp 27] _ rfl rfl (by simp[Act.eval]) R.out ?_;intro v y hv;simp only[cV,ap,bj,bk];rcases hv with⟨rfl,C',sL,A,rB⟩|⟨rfl,A⟩
     ·refine aA rfl (by simp) (re qS) (w':=y) (by simp[go_sem]) ?_
      simp only[cV,ap,bj,bk];refine ip ?_;have sR:ca (J (pq++[f.ty]) C' y/\Ext (λk=>¬lD N B k) W y):=⟨A,tt.out.trans rB (λk hk=> .inl ((sn.out _ _ _ tv.out k hk).2))⟩
      clear A rB sL p1 p2;go_wp2;go_roundw
      case rel=>exact⟨q+1,_,C',by omega,by go_num,HP.out.2,sR.out.1,sR.out.2⟩
      case measure=>simp[intOf];omega
     ·refine aA rfl (by simp) (re qv) (w':=y) (by simp[go_sem]) ?_
      simp only[cV,ap,bj,bk];refine ip ?_;have HF:ca (∃d,d<+:D/\Jx d y):=⟨_,HP.out.1,A⟩
      clear A p1 p2;go_wp2
      ((try simp only[cL,Exit.then]);(try rw[ii]);(first|refine da (eR rfl _ _ _) rfl ?_|refine j9 (eR rfl _ _ _) rfl ?_));exact⟨_,rfl,.inr HF.out⟩
    ·have tz:q=s.fs.length:=by omega
     subst tz;rw[mH,ej] at rl;have rK:=zH rl;clear rx se rl tm;go_wp2;go_roundw
     case rel=>exact⟨j+1,pq,C2,by omega,by go_num,rK.out,sy.out,sx.out⟩
     case measure=>simp[intOf];omega
  ·have tA:j=m.ss.length:=by omega
   subst tA;rw[Ar] at K;have rK:=zH K;obtain⟨wo,vn⟩:∃wo,wo=wr:=⟨_,rfl⟩
   subst vn;clear rr rL K rv
   go_upto_region 10 with(fail)
   go_loopw [35] (λc wr=>∃(j:cd) (d:bm Ty) (C:cd->Prop),j<=m.fs.length/\c= Z U (j:cj)/\D=d++jK m j/\J d C wr/\Ext (λk=>¬lD N B k) W wr) (λc _=>m.fs.length-(intOf c).toNat)
   case atStart=>exact⟨0,d,C1,cJ _,rfl,rK.out,rN.out,sq.out⟩
   case round=>
    clear c0 c1 rK rN sq;obtain⟨j,d,C1,hj,rfl,K,rL,rr⟩:=hrel;have sq:=zH rr;have rN:=zH rL;obtain⟨_,_,rv,_⟩:=HR.out wr rr
    by_cases rS:j<m.fs.length
    ·obtain⟨f,hf⟩:∃f,m.fs[j]?=qt f:=⟨_,am rS⟩
     have tB:=ce hf;have vp:=(rv.fin f tB).nvars;obtain⟨fb,sB,tn,tp,sE⟩:=rv.frow (by intro e;rw[e] at rS;simp at rS);have tr:ca (∀k u,f.cells.toList[k]?=qt u->wr.cell? ((⟨fb,sB+j*8,qu⟩:oA).add k)=qt u):=λk u hu=>by
      rw[cM];exact sE j f hf k u hu
     obtain⟨P,hP⟩:=zE wr.heap.size;obtain⟨o,rm⟩:=zE (wr.alloc (rj f.cells 38));have vi:∀(c:cG bw),c.size=8->(cU ⟨P,0,qu⟩ f.cells.toList 0).run ac (wr.alloc (rj c 38))= .ok () o:=λc hc=>by
      rw[<-rm,<-hP];exact cf (P:=ac) wr 38 c f.cells (by show _=qt 8;kernel_rfl) hc (ek f)
     have rn:o.heap[P]?=qt (rj f.cells 38 (0,0)):=by rw[<-rm,<-hP];exact alloc_at _ _
     have p3:=zR rn 3 (re f.c.rp);have p4:=zR rn 4 (qT f.c.rto);have vj:P<o.heap.size:=(bb.1 rn).1;have tt:ca (Ext (λk=>¬lD N B k) W o):=by rw[<-rm];exact sq.out.alloc _
     have sk:J d C1 o:=by rw[<-rm];exact sX.out _ _ _ _ rN.out ((Ext.refl _ _).alloc _)
     have tv:=zH sk;have vq:ca (¬C1 P):=λh=>by have:=(sn.out _ _ _ rN.out P h).1;omega
     have vr:=zH rn;have rI:D=d++f.ret::((f.vs.drop 0).map Vr.ty++jK m (j+1)):=by rw[K,yB hf]
     have HP:=zH (pO rI);have R:=zH (HM.out d f.ret C1 o sk HP.out.1);unfold sZ at R;simp only[Fn.ret] at R;have vh:(j:cj)<(m.fs.length:cj):=by omega
     have tf:=ur.out f tB;have vt:ca (∀G,Ext (λk=>¬lD N B k) W G->aH Vr.cells 3 G G.heap.size f.c.varsA f.vs):=λG hx=>((HR.out G hx).2.2.1.fin f tB).vars;rw[tn];clear rr rL K hf tp sE rn rm sk rI rv
     go_upto_region 12 with(refine az rfl 38 _ rfl ⟨fb,sB+j*8,qu⟩ rfl f.cells _ tr.out cy rfl (by kernel_rfl) ?_)
     refine(nh (n:=0)).1 ?_;refine lB (aA rfl (by simp) (.func (.yield l) #[] #[]) (w':=o) (by simp[go_sem]) ?_);simp only[cV,ap,bj,bk];refine aA rfl (by simp) (rb (qt ⟨P,3,qu⟩)) (w':=o) (by simp[go_sem]) ?_;simp only[cV,ap,bj,bk];refine aA rfl (by simp) (rb (qt ⟨P,3,qu⟩)) (w':=o) (by simp[go_sem]) ?_;simp only[cV,ap,bj,bk];refine aA rfl (by simp) (rh #[re f.c.rp,qT f.c.rto]) (w':=o) (by simp[go_sem,p3,p4]) ?_;simp only[cV,ap,bj,bk];refine fe (fv:= .func (.yield l) #[] #[]) (args:=#[rh #[re (f.c.rp,f.c.rto).1,qT (f.c.rp,f.c.rto).2]]) rfl (.tmp 39) #[.tmp 42] _ rfl rfl (by simp[Act.eval]) R.out ?_;intro v y hv;simp only[cV,ap,bj,bk];rcases hv with⟨rfl,C',sL,A,rB⟩|⟨rfl,A⟩
     ·refine aA rfl (by simp) (re qS) (w':=y) (by simp[go_sem]) ?_
      simp only[cV,ap,bj,bk];refine ip ?_;have sR:ca (J (d++[f.ret]) C' y/\Ext (λk=>¬lD N B k) W y):=⟨A,tt.out.trans rB (λk hk=> .inl ((sn.out _ _ _ tv.out k hk).2))⟩
      have q3:=rB.heap vr.out vq.out;have p2:y.cell? ⟨P,2,qu⟩=qt (ra f.c.varsA f.vs.length f.c.varsC):=by rw[bh _ _ _ _ _ _ q3,<-vp];rfl
      have wx:P<y.heap.size:=(bb.1 q3).1;have vu:ca (D=(d++[f.ret])++((f.vs.drop 0).map Vr.ty++jK m (j+1))):=HP.out.2;clear A rB sL p3 p4 q3 R;obtain⟨xf,vx⟩:∃wo,wo=wr:=⟨_,rfl⟩
      subst vx
      go_upto_region 14 with(fail)
      go_loopw [48] (λc wq=>∃(q:cd) (d:bm Ty) (C:cd->Prop),q<=f.vs.length/\c= Z U (q:cj)/\D=d++((f.vs.drop q).map Vr.ty++jK m (j+1))/\J d C wq/\Ext (λk=>¬lD N B k) W wq) (λc _=>f.vs.length-(intOf c).toNat)
      case atStart=>exact⟨0,_,C',cJ _,rfl,vu.out,sR.out.1,sR.out.2⟩
      case round=>
       clear p2;obtain⟨q,pq,C2,hq,rfl,rl,se,rx⟩:=hrel;have sx:=zH rx;have sy:=zH se
       by_cases sf:q<f.vs.length
       ·obtain⟨x,hx⟩:∃x,f.vs[q]?=qt x:=⟨_,am sf⟩
        obtain⟨vb,ua,vy,wa,ub⟩:=vt.out wr rx (by intro e;rw[e] at sf;simp at sf);have wb:ca (∀k u,x.cells.toList[k]?=qt u->wr.cell? ((⟨vb,ua+q*3,qu⟩:oA).add k)=qt u):=λk u hu=>by
         rw[cM];exact ub q x hx k u hu
        obtain⟨P2,uc⟩:=zE wr.heap.size;obtain⟨W4,sT⟩:=zE (wr.alloc (rj x.cells 34));have xj:∀(c:cG bw),c.size=3->(cU ⟨P2,0,qu⟩ x.cells.toList 0).run ac (wr.alloc (rj c 34))= .ok () W4:=λc hc=>by
         rw[<-sT,<-uc];exact cf (P:=ac) wr 34 c x.cells (by show _=qt 3;kernel_rfl) hc (uS x)
        have sY:W4.heap[P2]?=qt (rj x.cells 34 (0,0)):=by rw[<-sT,<-uc];exact alloc_at _ _
        have p0:=zR sY 0 (re x.ptr);have p1:=zR sY 1 (qT x.tgt);have xl:P2<W4.heap.size:=(bb.1 sY).1;have we:ca (Ext (λk=>¬lD N B k) W W4):=by rw[<-sT];exact sx.out.alloc _
        have tD:J pq C2 W4:=by rw[<-sT];exact sX.out _ _ _ _ sy.out ((Ext.refl _ _).alloc _)
        have wg:=zH tD;have rI:D=pq++x.ty::((f.vs.drop (q+1)).map Vr.ty++jK m (j+1)):=by rw[rl,kZ Vr.ty hx];rfl
        have tE:=zH (pO rI);have R:=zH (HM.out pq x.ty C2 W4 tD tE.out.1);unfold sZ at R;simp only[Vr.ty] at R;have vm:(q:cj)<(f.vs.length:cj):=by omega
        rw[vy];clear rx se rl hx wa ub sY sT tD rI
        go_upto_region 16 with(refine az rfl 34 _ rfl ⟨vb,ua+q*3,qu⟩ rfl x.cells _ wb.out underlying34 rfl (by kernel_rfl) ?_)
        refine(nh (n:=0)).1 ?_;refine lB (aA rfl (by simp) (.func (.yield l) #[] #[]) (w':=W4) (by simp[go_sem]) ?_);simp only[cV,ap,bj,bk];refine aA rfl (by simp) (rb (qt ⟨P2,0,qu⟩)) (w':=W4) (by simp[go_sem]) ?_;simp only[cV,ap,bj,bk];refine aA rfl (by simp) (rh #[re x.ptr,qT x.tgt]) (w':=W4) (by simp[go_sem,p0,p1]) ?_;simp only[cV,ap,bj,bk];refine fe (fv:= .func (.yield l) #[] #[]) (args:=#[rh #[re (x.ptr,x.tgt).1,qT (x.ptr,x.tgt).2]]) rfl (.tmp 52) #[.tmp 54] _ rfl rfl (by simp[Act.eval]) R.out ?_;intro v y hv;simp only[cV,ap,bj,bk];rcases hv with⟨rfl,C',sL,A,rB⟩|⟨rfl,A⟩
        ·refine aA rfl (by simp) (re qS) (w':=y) (by simp[go_sem]) ?_
         simp only[cV,ap,bj,bk];refine ip ?_;have ud:ca (J (pq++[x.ty]) C' y/\Ext (λk=>¬lD N B k) W y):=⟨A,we.out.trans rB (λk hk=> .inl ((sn.out _ _ _ wg.out k hk).2))⟩
         clear A rB sL p0 p1;go_wp2;go_roundw
         case rel=>exact⟨q+1,_,C',by omega,by go_num,tE.out.2,ud.out.1,ud.out.2⟩
         case measure=>simp[intOf];omega
        ·refine aA rfl (by simp) (re qv) (w':=y) (by simp[go_sem]) ?_
         simp only[cV,ap,bj,bk];refine ip ?_;have HF:ca (∃d,d<+:D/\Jx d y):=⟨_,tE.out.1,A⟩
         clear A p0 p1;go_wp2
         ((try simp only[cL,Exit.then]);(try rw[ii]);(first|refine da (eR rfl _ _ _) rfl ?_|refine j9 (eR rfl _ _ _) rfl ?_));exact⟨_,rfl,.inr HF.out⟩
       ·have tz:q=f.vs.length:=by omega
        subst tz;rw[mH,ej] at rl;have rK:=zH rl;clear rx se rl;go_wp2;go_roundw
        case rel=>exact⟨j+1,pq,C2,by omega,by go_num,rK.out,sy.out,sx.out⟩
        case measure=>simp[intOf];omega
     ·refine aA rfl (by simp) (re qv) (w':=y) (by simp[go_sem]) ?_
      simp only[cV,ap,bj,bk];refine ip ?_;have HF:ca (∃d,d<+:D/\Jx d y):=⟨_,HP.out.1,A⟩
      clear A p3 p4;go_wp2
      ((try simp only[cL,Exit.then]);(try rw[ii]);(first|refine da (eR rfl _ _ _) rfl ?_|refine j9 (eR rfl _ _ _) rfl ?_));exact⟨_,rfl,.inr HF.out⟩
    ·have tA:j=m.fs.length:=by omega
     subst tA;rw[Au,kh] at K;have rK:ca (J D C1 wr):=by unfold ca;rw[K];exact rN.out
     clear rr rL K rv;go_wp2
     ((try simp only[cL,Exit.then]);(try rw[ii]);(first|refine da (eR rfl _ _ _) rfl ?_|refine j9 (eR rfl _ _ _) rfl ?_));exact⟨_,rfl,.inl ⟨C1,rK.out⟩⟩
section
attribute [local go_sem] Oper.semAt_some
private theorem pQ (p:Tmp)(v:bw)(t:cG bw):((#[p]:cG Tmp).zip #[v]).foldl (λt (p,v)=>t.setIfInBounds p v) t=t.setIfInBounds p v:=by simp
theorem wW (m:Mo)(w:World):ft ac 95 #[rh m.cells] w λe w'=>
  e= rk (.func (.func 134) #[] #[rb (qt ⟨w.heap.size,0,qu⟩)])/\w'=w.alloc (rj m.cells 25):=by
 have d:∀(fn:Fn)(first cap:cG bw)(w:World),True:=λ_ _ _ _=>trivial;go_enter func95,ntmps95;go_wp2;go_ret;exact⟨rfl,rfl⟩
def yD:Fn:=⟨⟨⟨#[]⟩,0,qu,0,0,qS,⟨#[]⟩,0,qu,0,0,qu,0,[]⟩,[],[],[]⟩
def oJ (d:cG bw):cd->bm bw->cG bw
 |_,[]=>d
 |o,v::r=>oJ (d.setIfInBounds o v) (o+1) r
theorem mI {b:cd}{t:ge}:∀(f:bm bw)(o:cd)(w:World)(d:cG bw),w.heap[b]?=qt (rj d t (0,0))->(w.setCells b o f).heap[b]?=qt (rj (oJ d o f) t (0,0))
 |[],_,_,_,h=>h
 |v::r,o,w,d,h=>mI r (o+1) _ _ (gR w b o d t v h)
theorem yE (m:Mo)(g f:Fn):oJ (jg m g) 2 f.cells.toList=jg m f:=by
 simp[oJ,jg,Fn.cells,nJ.cells]
theorem DT (m:Mo)(g:Fn):((jg m g).all λx=>x.oneCell')=qv:=by
 rw[<-iv];simp[jg,br]
theorem bP (tmps:cG bw)(w:World)(d:oA)(v:bw)(f:tmps[2]?=qt (rb (qt d)))(h:w.cell? d=qt v):(pN Tryz.f53 tmps).run ac w= .ok v w:=by
 simp[pN,go_sem,f,h]
structure eD (w:World)(m:Mo):Prop where
 mo:m.inn w
 sl:m.ss.length<=90000
 fl:m.fs.length<=90000
 fd:∀s∈m.ss,s.fs.length<=90000
 vl:∀f∈m.fs,f.vs.length<=90000
 al:∀f∈m.fs,∀i∈f.c.ins,i.args.length<=40
theorem World.keptBut_ext (b:cd):∀(d:bm bw)(o:cd)(w:World),Ext (·=b) w (w.setCells b o d)
 |[],_,w=>Ext.refl _ w
 |v::r,o,w=>(Ext.set1 w b o v).trans (World.keptBut_ext b r (o+1) _) (λ_ f=> .inl f)
structure RI (m:Mo)(N:cd)(XS:bm Ty)(W5:World)(pre:bm Ty)(C:cd->Prop)(W:World):Prop where
 res:W.heap[N+1]?=qt (rj #[Z U 0] 27 (0,0))
 ext:Ext (λk=>k=N+1) W5 W
 kn:∀t∈pre,m.known t=qv
 own:(C=λk=>k=N+1)\/∃(b:cd) (t:Ty),C=(λk=>k=N+1\/k=b)/\XS[pre.length]?=qt t/\W5.heap.size<=b/\W.heap[b]?=qt (rj #[re t.1,qT t.2] 32 (0,0))
theorem RI.next {m:Mo}{N:cd}{o q:bm Ty}{d W W':World}{C:cd->Prop}(h:RI m N o d q C W)(D:N+1<d.heap.size)(f:Ext (λk=>d.heap.size<=k/\¬C k) W W'):RI m N o d q C W':=by
 refine⟨f.heap h.res (λh=>by omega),h.ext.trans f (λj u=> .inr u.1),h.kn, ?_⟩;rcases h.own with e|⟨b,t,e,v,y,A⟩
 ·exact .inl e
 ·exact .inr ⟨b,t,e,v,y,f.heap A (λh=>h.2 (by rw[e];exact .inr rfl))⟩
theorem RI.res_own {m:Mo}{N:cd}{d f:bm Ty}{o W:World}{C:cd->Prop}(h:RI m N d o f C W):C (N+1):=by
 rcases h.own with e|⟨b,t,e,_⟩
 ·rw[e]
 ·rw[e];exact .inl rfl
structure RX (m:Mo)(N:cd)(W5:World)(c:Code)(C:cd->Prop)(W:World):Prop where
 ret:c= .ret
 res:W.heap[N+1]?=qt (rj #[Z U 5] 27 (0,0))
 ext:Ext (λk=>k=N+1) W5 W
 bad:(bE m).all m.known=qS
 own:C (N+1)
theorem wX (m:Mo)(w:World)(h:eD w m):
  zP 53 #[rh m.cells] w (Z U (dE m)):=by
 have HM:=zH h;obtain⟨R,hR⟩:=zE (dE m);have HR:ca (R=if 30<m.ss.length\/60<m.fs.length then 2
  else if bX m=qv then 6
  else if (bE m).all m.known=qS then 5
  else if aM (codeF m) m.fs≠0 then aM (codeF m) m.fs
  else bv (decide (0<=m.fnIx cu)&&(match m.fs[(m.fnIx cu).toNat]? with
   |some g=>decide (g.c.par=0)&& !g.c.rp
   |none=>qS)) 9):=hR.symm
 rw[hR];clear h hR;obtain⟨N,hN⟩:=zE w.heap.size;obtain⟨W1,tm⟩:=zE ((w.alloc (rj m.cells 25)).alloc (rj #[Z U 0] 27));have wg:=qQ tm hN;have tn:W1.heap.size=N+2:=by rw[<-tm];simp[hN]
 have sE:=vN tm hN;have rv:=xI tm hN;obtain⟨W2,rS⟩:=zE (W1.alloc (rj (jg m yD) 184));have hst:∀(c:cG bw),c.size=10->(cU ⟨N+2,0,qu⟩ (jg m yD).toList 0).run ac (W1.alloc (rj c 184))= .ok () W2:=λc hc=>by
  rw[<-rS,<-tn];exact cf (P:=ac) W1 184 c (jg m yD) (by show _=qt 10;kernel_rfl) hc (DT m yD)
 simp only[jg,yD,ki] at hst;have b0:=zR sE 0 (ra m.sA m.ss.length m.sC);have b1:=zR sE 1 (ra m.fA m.fs.length m.fC);have tp:aq (N+2) W1 W2:=by rw[<-rS,<-tn];exact(an _ _).alloc (bp _) _
 have AW:W2.heap.size=N+3:=by rw[<-rS];simp[tn]
 have wi:W2.heap[N+2]?=qt (rj (jg m yD) 184 (0,0)):=by rw[<-rS,<-tn];exact alloc_at _ _
 have se:ca (∀W,aq (N+3) W2 W->W.heap[N]?=qt (rj m.cells 25 (0,0))/\W.heap[N+1]?=qt (rj #[Z U 0] 27 (0,0))/\W.heap[N+2]?=qt (rj (jg m yD) 184 (0,0))):=λW hW=>
  ⟨(hW.block N (by omega)).trans ((tp.block N (by omega)).trans sE),(hW.block (N+1) (by omega)).trans ((tp.block (N+1) (by omega)).trans rv),(hW.block (N+2) (by omega)).trans wi⟩
 have sL:ca (aq N w W2):=wg.trans (tp.mono (by omega));have A0:=zH sE;have HN:=zH hN;have ub:ca (∀(W:World)(z:cj)(u:bw)(bs:bm cd),W.heap[N+1]?=qt (rj #[u] 27 (0,0))->aq N w W->(∀b∈bs,N+2<=b)->∀w',Ext (·∈bs) (W.setCell ⟨N+1,0,qu⟩ (Z U z)) w'->w'.cell? ⟨N+1,0,qu⟩=qt (Z U z)/\aq N w w'):=by
  intro W z u bs J A h3 w' y;have h4:=gR W (N+1) 0 _ _ (Z U z) J;have h5:=y.heap h4 (λh=>by have:=h3 _ h;omega);refine⟨by rw[bh _ _ _ _ _ _ h5];rfl, ?_⟩;have h6:Ext (N<=·) w (W.setCell ⟨N+1,0,qu⟩ (Z U z)):=(Ext.of_below A).trans (Ext.set1 _ _ _ _) (λj G=> .inl (by show N<=j;omega));exact(h6.trans y (λj G=> .inl (by show N<=j;have:=h3 _ G;omega))).below (by omega) (λk o=>o)
 have uc:=rS;simp only[jg,yD,ki] at uc;have wj:=zH uc;clear wg sE rv tp wi rS uc
 (refine iJ func53 rfl ?_
  simp only[ntmps53,List.size_toArray,eI,ki,Nat.reduceAdd,Nat.reduceSub,Array.replicate_succ,
   Array.replicate_zero,List.push_toArray,List.append_toArray,ej,gE])
 go_wp2_with fail
 go_step3
 go_upto_region 2 with(fail)
 rw[wj.out];clear wj;obtain⟨ud,tr,zd⟩:=se.out W2 (an _ _);have c0:=zR ud 0 (ra m.sA m.ss.length m.sC);have c1:=zR ud 1 (ra m.fA m.fs.length m.fC);have c2:=zR tr 0 (Z U 0);have c3:=dg _ _ 0 _ _ tr;have wk:=zH tr;clear ud tr zd b0 b1 hst
 by_cases g1:30<m.ss.length
 ·have rn:ca (R=2):=by unfold ca;rw[HR.out,cI (.inl g1)]
  clear HR
  go_wp2_with fail
  refine⟨[],rfl,by simp,by simp,Z U 2,λw' y=> ?_⟩;obtain⟨J,A⟩:=ub.out W2 2 _ [] wk.out sL.out (by simp) w' y;exact⟨bP _ _ _ _ rfl J,by rw[rn.out],by first|exact A|(rw[HN.out];exact A)⟩
 by_cases g2:60<m.fs.length
 ·have rn:ca (R=2):=by unfold ca;rw[HR.out,cI (.inr g2)]
  clear HR
  go_wp2_with fail
  refine⟨[],rfl,by simp,by simp,Z U 2,λw' y=> ?_⟩;obtain⟨J,A⟩:=ub.out W2 2 _ [] wk.out sL.out (by simp) w' y;exact⟨bP _ _ _ _ rfl J,by rw[rn.out],by first|exact A|(rw[HN.out];exact A)⟩
 have sR:ca (R=if bX m=qv then 6
  else if (bE m).all m.known=qS then 5
  else if aM (codeF m) m.fs≠0 then aM (codeF m) m.fs
  else bv (decide (0<=m.fnIx cu)&&(match m.fs[(m.fnIx cu).toNat]? with
   |some g=>decide (g.c.par=0)&& !g.c.rp
   |none=>qS)) 9):=by unfold ca;rw[HR.out,cw (by omega)]
 clear HR;have ue:=zH (wT m W2 (HM.out.mo.below (by rw[HN.out];exact sL.out)) HM.out.sl HM.out.fl HM.out.fd);obtain⟨tw,wl⟩:=zE (bX m);rw[wl] at ue sR;have wn:ca (W2.heap[N]?=qt (rj m.cells 25 (0,0))):=(se.out W2 (an _ _)).1;clear wl;cases tw with
 |true=>
  have rn:ca (R=6):=by unfold ca;rw[sR.out,cI rfl]
  clear sR
  go_upto_region 4 with(fail)
  go_wp2_with (first
   |(refine bo rfl 25 _ rfl N rfl 25 m.cells (0,0) _ wn.out ey rfl (by kernel_rfl) ?_)
   |(go_at_call 94;refine ue.out.mono ?_;rintro e w3 ⟨rfl,sf⟩;have q1:=(se.out w3 (sf.mono (by omega))).2.1;have c2:w3.cell? ⟨N+1,0,qu⟩=qt (Z U 0):=(bh _ _ _ _ _ _ q1).trans rfl;have c3:=dg _ _ 0 _ _ q1;have zj:=zH q1;have rx:=zH sf;clear sf q1))
  refine⟨[],rfl,by simp,by simp,Z U 6,λw' y=> ?_⟩;obtain⟨J,A⟩:=ub.out w3 6 _ [] zj.out (sL.out.trans (rx.out.mono (by omega))) (by simp) w' y;exact⟨bP _ _ _ _ rfl J,by rw[rn.out],by first|exact A|(rw[HN.out];exact A)⟩
 |false=>
  have ur:ca (R=if (bE m).all m.known=qS then 5
   else if aM (codeF m) m.fs≠0 then aM (codeF m) m.fs
   else bv (decide (0<=m.fnIx cu)&&(match m.fs[(m.fnIx cu).toNat]? with
    |some g=>decide (g.c.par=0)&& !g.c.rp
    |none=>qS)) 9):=by unfold ca;rw[sR.out];rfl
  clear sR
  go_upto_region 6 with(first
   |(refine bo rfl 25 _ rfl N rfl 25 m.cells (0,0) _ wn.out ey rfl (by kernel_rfl) ?_)
   |(go_at_call 94;refine ue.out.mono ?_;rintro e w3 ⟨rfl,sf⟩;have ws:aq (N+3) W2 w3:=sf.mono (by omega);have rx:=zH ws;clear sf ws))
  have A1:=rx.out.size;have wx:ca (w3.heap[N]?=qt (rj m.cells 25 (0,0))):=(se.out w3 rx.out).1;have zp:ca (w3.heap[N+1]?=qt (rj #[Z U 0] 27 (0,0))):=(se.out w3 rx.out).2.1;have xf:ca (w3.heap[N+2]?=qt (rj (jg m yD) 184 (0,0))):=(se.out w3 rx.out).2.2;have zr:ca (aq N w w3):=sL.out.trans (rx.out.mono (by omega));obtain⟨B,hB⟩:=zE w3.heap.size;obtain⟨W5,sk⟩:=zE (w3.alloc (rj m.cells 25));have zv:ca (ft ac 95 #[rh m.cells] w3 λe w'=>e= rk (.func (.func 134) #[] #[rb (qt ⟨B,0,qu⟩)])/\w'=W5):=by
   rw[<-hB,<-sk];exact wW m w3
  have xj:Ext (λ_=>jp) w3 W5:=by rw[<-sk];exact(Ext.refl _ _).alloc _
  have A2:W5.heap.size=B+1:=by rw[<-sk];simp[hB]
  have xl:W5.heap[B]?=qt (rj m.cells 25 (0,0)):=by rw[<-sk,<-hB];exact alloc_at _ _
  have xo:=gQ sk hB;have tt:ca (aq N w W5):=zr.out.trans (xo.mono (by omega));have uv:ca (Iter ac 134 #[rb (qt ⟨B,0,qu⟩)] sZ (bE m) (lD N B) W5):=by
   have:=wV w W5 m B HM.out.mo (by rw[HN.out];exact tt.out) xl HM.out.fd HM.out.vl HM.out.sl HM.out.fl;rw[HN.out] at this;exact this
  have tv:=zH xj;clear xj xo xl sk c0 c1 c2 c3
  go_upto_region 7 with(first
   |(refine bo rfl 25 _ rfl N rfl 25 m.cells (0,0) _ wx.out ey rfl (by kernel_rfl) ?_)
   |(go_at_call 95;refine zv.out.mono ?_;rintro e w6 ⟨rfl,xp⟩;rw[xp];clear xp))
  have An:N+1<W5.heap.size:=by omega
  have A3:N+3<=B:=by omega
  have ux:ca (∀(W:World)(z:cj)(bs:bm cd),W.heap[N+1]?=qt (rj #[Z U z] 27 (0,0))->Ext (N<=·) w W->(∀b∈bs,N+2<=b)->∀w',Ext (·∈bs) W w'->w'.cell? ⟨N+1,0,qu⟩=qt (Z U z)/\aq N w w'):=by
   intro W z bs J A h3 w' y;have h5:=y.heap J (λh=>by have:=h3 _ h;omega);refine⟨by rw[bh _ _ _ _ _ _ h5];rfl, ?_⟩;exact(A.trans y (λj G=> .inl (by show N<=j;have:=h3 _ G;omega))).below (by omega) (λk o=>o)
  obtain⟨XS,va⟩:=zE (bE m);have vc:=zH va;rw[va] at uv;clear va;refine mX (gf:=134) rfl func134 (by rfl) rfl uv.out (an _ _) ?hRd (λ_=>rfl) (RI m N XS W5) (λc _ C W=>RX m N W5 c C W) (λsn C W W' h y=>h.next An y) ?hIC ?hIx (λk=>k=N+1) ?h0 ?hround ?hdone ?hstop
  case hRd=>
   rintro k (h|rfl)
   ·omega
   ·omega
  case hIC=>
   intro sn C W h k o;rcases h.own with e|⟨b,t,e,J,A,h3⟩
   ·rw[e] at o
    have o:k=N+1:=o;subst o;exact⟨(bb.1 h.res).1,λh=>by rcases h with h|h<;>omega⟩
   ·rw[e] at o
    rcases o with o|o
    ·subst o
     exact⟨(bb.1 h.res).1,λh=>by rcases h with h|h<;>omega⟩
    ·subst o
     exact⟨(bb.1 h3).1,λh=>by rcases h with h|h<;>omega⟩
  case hIx=>
   intro c sn C W W' h y;exact⟨h.ret,y.heap h.res (λq=>by omega),h.ext.trans y (λj G=> .inr G.1),h.bad,h.own⟩
  case h0=>exact⟨tv.out.heap zp.out (λh=>h),Ext.refl _ _,by simp,.inl rfl⟩
  case hround=>
   rintro l sn ⟨xb,xs⟩ C W hl hI sT;unfold sZ;rw[pQ];simp only[ap,bj,bk];have HI:=zH hI;have As:=zH sT;have vd:XS[sn.length]?=qt (xb,xs):=by
    obtain⟨t,ht⟩:=sT;rw[<-ht];simp
   have A4:=hI.ext.size;obtain⟨b,hb⟩:=zE W.heap.size;obtain⟨W6,tz⟩:=zE (W.alloc (rj #[re xb,qT xs] 32));have A5:∀(c:cG bw),c.size=2->(cU ⟨b,0,qu⟩ [re xb,qT xs] 0).run ac (W.alloc (rj c 32))= .ok () W6:=λc hc=>by
    rw[<-tz,<-hb];exact cf (P:=ac) W 32 c #[re xb,qT xs] (by show _=qt 2;kernel_rfl) hc (by simp[br])
   have xr:W6.heap[b]?=qt (rj #[re xb,qT xs] 32 (0,0)):=by rw[<-tz,<-hb];exact alloc_at _ _
   have tA:Ext (λ_=>jp) W W6:=by rw[<-tz];exact(Ext.refl _ _).alloc _
   have At:ca (RI m N XS W5 sn (λk=>k=N+1\/k=b) W6):=by
    have h:=HI.out;exact⟨tA.heap h.res (λh=>h),h.ext.trans tA (λ_ h=>h.elim),h.kn,.inr ⟨b,_,rfl,vd,by omega,xr⟩⟩
   have Ax:ca (Ext C W W6):=tA.mono (λ_ h=>h.elim);have AD:=zH vd;have A6:=zH tz;clear hI sT vd xr tA;obtain⟨F,hF⟩:∃F,F=fj.inRound l:=⟨_,rfl⟩
   have xt:ca (∀(n f:cd)(args:cG bw)(w:World)(R:Ending->World->Prop),ft ac f args w R->CallsIn F n ac f args w R):=by
    intro n f args w R h;rw[hF];exact CallsIn.inRound l (callsIn_wide.2 h)
   have Bk:F.round=qt l:=by rw[hF];rfl
   have Bm:∀f,F.fn f:=λf=>by rw[hF];trivial
   have By:F.depth=qu:=by rw[hF];rfl
   rw[<-hF];clear hF
   gi_wp2
   refine⟨λk=>k=N+1\/k=b, ?_,At.out,Ax.out, ?_⟩
   ·rintro k (rfl|rfl)
    ·exact .inl HI.out.res_own
    ·exact .inr (by omega)
   intro W₂ rB AE;have rv:W₂.heap[b]?=qt (rj #[re xb,qT xs] 32 (0,0)):=by
    rcases rB.own with e|⟨b',t',e,J,A,h3⟩
    ·have q:=congrFun e b
     simp at q;omega
    ·have q:=congrFun e b
     simp at q;rcases q with q|q
     ·omega
     ·subst q
      rw[AD.out] at J;obtain rfl:=cX J;exact h3
   have xF:W₂.heap[N+2]?=qt (rj (jg m yD) 184 (0,0)):=rB.ext.heap (tv.out.heap xf.out (λh=>h)) (by omega);have xT:aq N W5 W₂:=rB.ext.below (by omega) (λk o=>by omega);have AF:ca (aq N w W₂):=tt.out.trans xT;have AG:=dg _ _ 0 _ _ rB.res;have AH:W₂.cell? ⟨N+1,0,qu⟩=qt (Z U 0):=(bh _ _ _ _ _ _ rB.res).trans rfl;have t0:W₂.cell? ⟨b,0,qu⟩=qt (re xb):=(bh _ _ _ _ _ _ rv).trans rfl;have t1:W₂.cell? ⟨b,1,qu⟩=qt (qT xs):=(bh _ _ _ _ _ _ rv).trans rfl;obtain⟨y0,y1,y2,y3,y4,y5,y6,y7,y8,y9⟩:=iI.of xF;simp only[yD,ki] at y2 y3 y4 y5 y6 y7 y8 y9;obtain⟨d,hd⟩:=zE (m.known (xb,xs));have ya:ca (zP 96 #[rh (jg m yD),rh #[re xb,qT xs]] W₂ (re d)):=by
    rw[<-hd];exact wN m yD xb xs W₂ (HM.out.mo.below (by rw[HN.out];exact AF.out))
   have HD:=zH hd;have sX:=zH rB;have BE:=(bb.1 rv).1;clear rv xF xT rB hd AE;cases d with
   |true=>
    gi_wp2_with (gi_at_call 96;refine(xt.out _ _ _ _ _ ya.out).mono ?_;rintro e w7 ⟨rfl,rm⟩;have rI:=zH rm;clear rm)
    have h7:Ext (λ_=>jp) W₂ w7:=Ext.of_below_size rI.out;refine⟨λk=>k=N+1,λk o=> .inl (.inl o),⟨h7.heap sX.out.res (λh=>h),sX.out.ext.trans h7 (λ_ h=>h.elim),λt ht=> ?_,.inl rfl⟩,h7.mono (λ_ h=>h.elim)⟩;rcases cC.1 ht with h|h
    ·exact sX.out.kn t h
    ·simp at h;subst h;exact HD.out
   |false=>
    gi_wp2_with (gi_at_call 96;refine(xt.out _ _ _ _ _ ya.out).mono ?_;rintro e w7 ⟨rfl,rm⟩;have z7:w7.cell? ⟨N+1,0,qu⟩=qt (Z U 0):=(rm.cell (p:=⟨N+1,0,qu⟩) (by show N+1<_;omega)).trans AH;have f7:w7.frozen? ⟨N+1,0,qu⟩=qS:=(rm.frozen (p:=⟨N+1,0,qu⟩) (by show N+1<_;omega)).trans AG;have rI:=zH rm;clear rm)
    have h7:Ext (λ_=>jp) W₂ w7:=Ext.of_below_size rI.out;have h8:Ext (·=N+1) w7 (w7.setCell ⟨N+1,0,qu⟩ (Z U 5)):=Ext.set1 _ _ _ _;refine⟨λk=>k=N+1,λk o=> .inl (.inl o),⟨rfl, ?_,(sX.out.ext.trans h7 (λ_ h=>h.elim)).trans h8 (λj G=> .inl G), ?_,rfl⟩,(h7.mono (λ_ h=>h.elim)).trans h8 (λj G=> .inl (.inl G))⟩
    ·have:=gR w7 (N+1) 0 _ _ (Z U 5) (h7.heap sX.out.res (λh=>h))
     simpa using this
    ·rw[vc.out,lk]
     exact⟨(xb,xs),As.out.subset (by simp),by rw[HD.out];simp⟩
  case hstop=>
   intro D c sn C W hD vf sT AI sq;obtain⟨rfl,rr,yb,yd,AK⟩:=AI;have rn:ca (R=5):=by unfold ca;rw[ur.out,cI yd]
   have tB:=zH sq;have rK:ca (Ext (N<=·) w W):=(Ext.of_below tt.out).trans (yb.mono (M':=(N<=·)) (λk o=>by show N<=k;omega)) (λj G=> .inl G);have vh:=zH rr;clear rr yb yd AK sq sT
   go_wp2_with fail
   refine⟨[D],rfl,by simp,by intro b hb;simp at hb;subst hb;exact tB.out,Z U 5,λw' y=> ?_⟩;obtain⟨J,A⟩:=ux.out W 5 [D] vh.out rK.out (by simp;omega) w' y;exact⟨bP _ _ _ _ rfl J,by rw[rn.out],by first|exact A|(rw[HN.out];exact A)⟩
  case hdone=>
   intro D C W hD vf hI sq;have ye:ca (∀t∈bE m,m.known t=qv):=by rw[vc.out];exact hI.kn
   have tD:ca (R=if aM (codeF m) m.fs≠0 then aM (codeF m) m.fs
    else bv (decide (0<=m.fnIx cu)&&(match m.fs[(m.fnIx cu).toNat]? with
     |some g=>decide (g.c.par=0)&& !g.c.rp
     |none=>qS)) 9):=by
    unfold ca;rw[ur.out,cw];rw[gC.2 ye.out];decide
   have tB:=zH sq;have rK:ca (Ext (N<=·) w W):=(Ext.of_below tt.out).trans (hI.ext.mono (M':=(N<=·)) (λk o=>by show N<=k;omega)) (λj G=> .inl G);have vh:=zH hI.res;have vi:ca (W.heap[N]?=qt (rj m.cells 25 (0,0))):=hI.ext.heap (tv.out.heap wx.out (λh=>h)) (by omega);have AM:ca (W.heap[N+2]?=qt (rj (jg m yD) 184 (0,0))):=hI.ext.heap (tv.out.heap xf.out (λh=>h)) (by omega);have BT:N+3<=W.heap.size:=by have:=hI.ext.size;omega
   have BY:ca (aq N w W):=rK.out.below (by omega) (λk o=>o);have B4:ca (D<W.heap.size):=(bb.1 sq).1;have m0:W.cell? ⟨N,0,qu⟩=qt (ra m.sA m.ss.length m.sC):=(bh _ _ _ _ _ _ vi.out).trans rfl;have m1:W.cell? ⟨N,1,qu⟩=qt (ra m.fA m.fs.length m.fC):=(bh _ _ _ _ _ _ vi.out).trans rfl;have B5:=zH vf;clear hI sq vf ur uv vc
   go_wp2_with fail
   go_step3
   go_wp2_with fail
   go_loopw [34] (λc wr=>∃(j:cd) (g:Fn),j<=m.fs.length/\c= Z U (j:cj)/\(∀f∈m.fs.take j,codeF m f=0)/\Ext (λk=>k=N+1\/k=N+2) W wr/\wr.heap[N+1]?=qt (rj #[Z U 0] 27 (0,0))/\wr.heap[N+2]?=qt (rj (jg m g) 184 (0,0))) (λc _=>m.fs.length-(intOf c).toNat)
   case atStart=>exact⟨0,yD,cJ _,rfl,by simp,Ext.refl _ _,vh.out,AM.out⟩
   case round=>
    clear m0 m1;obtain⟨j,g,G,rfl,hz,y,rr,sY⟩:=hrel;have HZ:=zH hz;have HX:=zH y;have AN:=zH rr;have B6:=zH sY;have B7:=y.size;have vj:ca (aq N w wr):=(rK.out.trans (y.mono (M':=(N<=·)) (λk o=>by show N<=k;omega)) (λj G=> .inl G)).below (by omega) (λk o=>o)
    by_cases vm:j<m.fs.length
    ·obtain⟨f,hf⟩:∃f,m.fs[j]?=qt f:=⟨_,am vm⟩
     have tE:=ce hf;obtain⟨fb,rL,te,vn,sr⟩:=HM.out.mo.frow (by intro e;rw[e] at vm;simp at vm);have tG:fb<N:=by omega
     have yi:ca (∀k u,f.cells.toList[k]?=qt u->wr.cell? ((⟨fb,rL+j*8,qu⟩:oA).add k)=qt u):=λk u hu=>by
      rw[cM,vj.out.cell (p:=⟨fb,_,qu⟩) tG];exact sr j f hf k u hu
     obtain⟨P,hP⟩:=zE wr.heap.size;obtain⟨W3,tf⟩:=zE (wr.alloc (rj f.cells 38));have B8:∀(c:cG bw),c.size=8->(cU ⟨P,0,qu⟩ f.cells.toList 0).run ac (wr.alloc (rj c 38))= .ok () W3:=λc hc=>by
      rw[<-tf,<-hP];exact cf (P:=ac) wr 38 c f.cells (by show _=qt 8;kernel_rfl) hc (ek f)
     have tM:Ext (λ_=>jp) wr W3:=by rw[<-tf];exact(Ext.refl _ _).alloc _
     have yk:ca (W3.heap[P]?=qt (rj f.cells 38 (0,0))):=by unfold ca;rw[<-tf,<-hP];exact alloc_at _ _
     have tP:=tM.heap sY (λh=>h);have B9:W3.heap.size=P+1:=by rw[<-tf];simp[hP]
     obtain⟨W4,tR⟩:=zE (W3.setCells (N+2) 2 f.cells.toList);have Cd:(cU ⟨N+2,2,qu⟩ f.cells.toList 0).run ac W3= .ok () W4:=by
      rw[<-tR];refine run_storeCells_cells (P:=ac) (N+2) 2 f.cells.toList 0 W3 (λk o=> ?_) (λk o=>dg _ _ _ _ _ tP) (λv hv=> ?_)
      ·rw[bh _ _ _ _ _ _ tP]
       have:k<8:=o;rw[Array.getElem?_eq_getElem (by show 2+0+k<10;omega)];rfl
      ·have:=ek f
       rw[<-iv,gC] at this;exact this v hv
     have yp:W4.heap[N+2]?=qt (rj (jg m f) 184 (0,0)):=by
      rw[<-tR,<-yE m g f];exact mI _ _ _ _ tP
     have vp:Ext (·=N+2) W3 W4:=by rw[<-tR];exact(World.keptBut_ext (N+2) _ _ _)
     have yq:W4.heap[N+1]?=qt (rj #[Z U 0] 27 (0,0)):=vp.heap (tM.heap rr (λh=>h)) (by omega);have tS:ca (Ext (λk=>k=N+1\/k=N+2) W W4):=(HX.out.trans tM (λ_ h=>h.elim)).trans vp (λk o=> .inl (.inr o));have AS:ca (aq N w W4):=(rK.out.trans (tS.out.mono (M':=(N<=·)) (λk o=>by show N<=k;omega)) (λj G=> .inl G)).below (by omega) (λk o=>o);have vq:=zH yp;have yr:=zH yq;have Cl:=tS.out.size;obtain⟨z,vr⟩:=zE (codeF m f);have yv:ca (zP 97 #[rh (jg m f)] W4 (Z U z)):=by
      rw[<-vr];have rN:=HM.out.mo.below (by rw[HN.out];exact AS.out);exact yw m f W4 ⟨rN,rN.fin f tE,HM.out.al f tE,λv hv=>ye.out _ (by
       obtain⟨h0,J⟩:=dJ.1 hv;obtain⟨k,rfl⟩:∃k:cd,v=(k:cj):=⟨v.toNat,by omega⟩
       obtain⟨x,y⟩:∃x,f.vs[k]?=qt x:=⟨_,am (by omega)⟩
       have e:ak f.vs (k:cj)=x.ty:=by unfold ak;rw[ep,y]
       rw[e];unfold bE;exact cC.2 (.inr (er.2 ⟨f,tE,m5 _ (dd.2 ⟨x,ce y,rfl⟩)⟩)))⟩
     have vt:=zH vr;have HF:=zH hf;have Cp:(j:cj)<(m.fs.length:cj):=by omega
     rw[te];clear hz y rr sY hf tE vn sr tf tM tP tR yp vp yq vr
     by_cases tU:z=0
     ·subst tU
      go_wp2_with (first
       |(refine az rfl 38 _ rfl ⟨fb,rL+j*8,qu⟩ rfl f.cells _ yi.out cy rfl (by kernel_rfl) ?_)
       |(refine bo rfl 38 _ rfl P rfl 38 f.cells (0,0) _ yk.out cy rfl (by kernel_rfl) ?_)
       |(refine bo rfl 184 _ rfl (N+2) rfl 184 (jg m f) (0,0) _ vq.out cq rfl (by kernel_rfl) ?_)
       |(go_at_call 97;refine yv.out.mono ?_;rintro e w7 ⟨rfl,rm⟩;have q7:=jD rm yr.out;have z7:w7.cell? ⟨N+1,0,qu⟩=qt (Z U 0):=(bh _ _ _ _ _ _ q7).trans rfl;have f7:=dg _ _ 0 _ _ q7;have n7:=(bb.1 q7).1;have vu:=zH q7;have rI:=zH rm;clear rm q7))
      have sx:Ext (·=N+1) w7 (w7.setCell ⟨N+1,0,qu⟩ (Z U 0)):=Ext.set1 _ _ _ _;have tW:Ext (λ_=>jp) W4 w7:=Ext.of_below_size rI.out;refine⟨⟨j+1,f,by omega,by go_num,bY (p:=λf=>codeF m f=0) HZ.out HF.out vt.out,(tS.out.trans tW (λ_ h=>h.elim)).trans sx (λk o=> .inl (.inl o)), ?_,sx.heap (tW.heap vq.out (λh=>h)) (by omega)⟩,by simp[intOf];omega⟩;have:=gR w7 (N+1) 0 _ _ (Z U 0) vu.out;simpa using this
     ·have rn:ca (R=z):=by
       unfold ca;have e:=jk (f:=codeF m) HZ.out HF.out (by rw[vt.out];exact tU);rw[tD.out,e,vt.out,cI tU]
      have CA:(z==0)=qS:=by rw[cR];exact tU
      go_wp2_with (first
       |(refine az rfl 38 _ rfl ⟨fb,rL+j*8,qu⟩ rfl f.cells _ yi.out cy rfl (by kernel_rfl) ?_)
       |(refine bo rfl 38 _ rfl P rfl 38 f.cells (0,0) _ yk.out cy rfl (by kernel_rfl) ?_)
       |(refine bo rfl 184 _ rfl (N+2) rfl 184 (jg m f) (0,0) _ vq.out cq rfl (by kernel_rfl) ?_)
       |(go_at_call 97;refine yv.out.mono ?_;rintro e w7 ⟨rfl,rm⟩;have q7:=jD rm yr.out;have z7:w7.cell? ⟨N+1,0,qu⟩=qt (Z U 0):=(bh _ _ _ _ _ _ q7).trans rfl;have f7:=dg _ _ 0 _ _ q7;have n7:=(bb.1 q7).1;have vu:=zH q7;have rI:=zH rm;clear rm q7))
      have sx:Ext (·=N+1) w7 ((w7.setCell ⟨N+1,0,qu⟩ (Z U z)).setCell ⟨N+1,0,qu⟩ (Z U z)):=(Ext.set1 _ _ _ _).trans (Ext.set1 _ _ _ _) (λj G=> .inl G);have tW:Ext (λ_=>jp) W4 w7:=Ext.of_below_size rI.out;have th:Ext (λk=>k=N+1\/k=N+2) W ((w7.setCell ⟨N+1,0,qu⟩ (Z U z)).setCell ⟨N+1,0,qu⟩ (Z U z)):=(tS.out.trans tW (λ_ h=>h.elim)).trans sx (λk o=> .inl (.inl o));have vx:((w7.setCell ⟨N+1,0,qu⟩ (Z U z)).setCell ⟨N+1,0,qu⟩ (Z U z)).heap[N+1]?=qt (rj #[Z U z] 27 (0,0)):=by
       have q1:=gR w7 (N+1) 0 _ _ (Z U z) vu.out;have q2:=gR _ (N+1) 0 _ _ (Z U z) q1;simpa using q2
      refine⟨[D],rfl,by simp,by intro b hb;simp at hb;subst hb;exact th.heap tB.out (by omega),Z U z,λw' y=> ?_⟩;obtain⟨J,A⟩:=ux.out _ z [D] vx (rK.out.trans (th.mono (M':=(N<=·)) (λk o=>by show N<=k;omega)) (λj G=> .inl G)) (by simp;omega) w' y;exact⟨bP _ _ _ _ rfl J,by rw[rn.out],by first|exact A|(rw[HN.out];exact A)⟩
    ·have AT:j=m.fs.length:=by omega
     subst AT;rw[cT] at hz;have ti:ca (R=bv (decide (0<=m.fnIx cu)&&(match m.fs[(m.fnIx cu).toNat]? with
      |some g=>decide (g.c.par=0)&& !g.c.rp
      |none=>qS)) 9):=by
      unfold ca;rw[tD.out,gF hz,cw (by simp)]
     have z0:wr.cell? ⟨N+1,0,qu⟩=qt (Z U 0):=(bh _ _ _ _ _ _ rr).trans rfl;have f0:=dg _ _ 0 _ _ rr;have ua:wr.heap[N]?=qt (rj m.cells 25 (0,0)):=y.heap vi.out (by omega);have m0:wr.cell? ⟨N,0,qu⟩=qt (ra m.sA m.ss.length m.sC):=(bh _ _ _ _ _ _ ua).trans rfl;have m1:wr.cell? ⟨N,1,qu⟩=qt (ra m.fA m.fs.length m.fC):=(bh _ _ _ _ _ _ ua).trans rfl;have rN:=HM.out.mo.below (by rw[HN.out];exact vj.out);obtain⟨kx,sy⟩:=zE (m.fnIx cu);rw[sy] at ti;have tj:ca (zP 98 #[rh m.cells,qT ⟨#[109,97,105,110]⟩] wr (Z U kx)):=by
      rw[<-sy];exact wL m cu wr rN.nf rN.frow
     have vy:ca (∀(K:World)(z:cj),aq wr.heap.size wr K->(K.setCell ⟨N+1,0,qu⟩ (Z U z)).heap[D]?=qt (.deferred (qt []))/\∀w',Ext (·∈[D]) (K.setCell ⟨N+1,0,qu⟩ (Z U z)) w'->w'.cell? ⟨N+1,0,qu⟩=qt (Z U z)/\aq N w w'):=by
      intro K z rl;have yy:Ext (λ_=>jp) wr K:=Ext.of_below_size rl;have sx:Ext (·=N+1) K (K.setCell ⟨N+1,0,qu⟩ (Z U z)):=Ext.set1 _ _ _ _;have th:Ext (λk=>k=N+1\/k=N+2) W (K.setCell ⟨N+1,0,qu⟩ (Z U z)):=(HX.out.trans yy (λ_ h=>h.elim)).trans sx (λk o=> .inl (.inl o));have vx:=gR K (N+1) 0 _ _ (Z U z) (yy.heap AN.out (λh=>h));refine⟨th.heap tB.out (by omega),λw' y=> ?_⟩;exact ux.out _ z [D] (by simpa using vx) (rK.out.trans (th.mono (M':=(N<=·)) (λk o=>by show N<=k;omega)) (λj G=> .inl G)) (by simp;omega) w' y
     have CC:=zH rr;have sB:N+1<wr.heap.size:=by omega
     rcases lC (λf:Fn=>f.c.nm==cu) m.fs with e|⟨k,f,e,hf,_⟩
     ·have wa:kx= -1:=by rw[<-sy];exact e
      subst wa;have rn:ca (R=9):=by unfold ca;rw[ti.out];rfl
      clear hz y rr sY sy ua rN tD ti e
      go_wp2_with (first
       |(go_at_call 98;refine tj.out.mono ?_;rintro e K ⟨rfl,rl⟩;have z8:K.cell? ⟨N+1,0,qu⟩=qt (Z U 0):=(rl.cell (p:=⟨N+1,0,qu⟩) sB).trans z0;have f8:K.frozen? ⟨N+1,0,qu⟩=qS:=(rl.frozen (p:=⟨N+1,0,qu⟩) sB).trans f0;have tl:=zH rl;clear rl)
       |(go_at_call 99;refine(ay _ _ _).mono ?_;rintro e w9 ⟨rfl,rfl⟩))
      obtain⟨h3,h4⟩:=vy.out K 9 tl.out;refine⟨[D],rfl,by simp,by intro b hb;simp at hb;subst hb;exact h3,Z U 9,λw' y=> ?_⟩;obtain⟨J,A⟩:=h4 w' y;exact⟨bP _ _ _ _ rfl J,by rw[rn.out],by first|exact A|(rw[HN.out];exact A)⟩
     ·have wa:kx=(k:cj):=by rw[<-sy];exact e
      subst wa;have yW:=(bl.1 hf).1;have CD:(k:cj)<(m.fs.length:cj):=by omega
      have rn:ca (R=bv (decide (f.c.par=0)&& !f.c.rp) 9):=by
       unfold ca;rw[ti.out,ep,hf,dy (by omega)];rfl
      obtain⟨fb,rL,te,vn,sr⟩:=HM.out.mo.frow (by intro e;rw[e] at yW;simp at yW);have tG:fb<N:=by omega
      have wb:ca (∀W8,aq wr.heap.size wr W8->W8.cell? ⟨fb,rL+k*8+1,qu⟩=qt (Z U f.c.par)/\W8.cell? ⟨fb,rL+k*8+3,qu⟩=qt (re f.c.rp)/\W8.cell? ⟨N,1,qu⟩=qt (ra (qt ⟨fb,rL,qu⟩) m.fs.length m.fC)/\N<W8.heap.size/\fb<W8.heap.size):=by
       intro W8 h8;have zc:aq N w W8:=vj.out.trans (h8.mono (by omega));have CH:=h8.size;refine⟨?_, ?_, ?_,by omega,by omega⟩
       ·rw[zc.cell (p:=⟨fb,_,qu⟩) tG];exact sr k f hf 1 _ rfl
       ·rw[zc.cell (p:=⟨fb,_,qu⟩) tG];exact sr k f hf 3 _ rfl
       ·rw[h8.cell (p:=⟨N,1,qu⟩) (by show N<_;omega),<-te];exact m1
      simp only[Mo.cells] at tj;rw[te] at tj m1;clear hz y rr sY sy ua rN tD ti e vn sr hf te
      by_cases hp:f.c.par=0
      ·rw[hp] at wb
       have we:ca (R=bv (!f.c.rp) 9):=by unfold ca;rw[rn.out,hp];rfl
       go_wp2_with (first
        |(go_at_call 98;refine tj.out.mono ?_;rintro e K ⟨rfl,rl⟩;have z8:K.cell? ⟨N+1,0,qu⟩=qt (Z U 0):=(rl.cell (p:=⟨N+1,0,qu⟩) sB).trans z0;have f8:K.frozen? ⟨N+1,0,qu⟩=qS:=(rl.frozen (p:=⟨N+1,0,qu⟩) sB).trans f0;obtain⟨u1,u2,u3,u4,u5⟩:=wb.out K rl;have tl:=zH rl;clear rl)
        |(go_at_call 99;refine(ay _ _ _).mono ?_;rintro e w9 ⟨rfl,rfl⟩))
       obtain⟨h3,h4⟩:=vy.out K (bv (!f.c.rp) 9) tl.out;refine⟨[D],rfl,by simp,by intro b hb;simp at hb;subst hb;exact h3,Z U (bv (!f.c.rp) 9),λw' y=> ?_⟩;obtain⟨J,A⟩:=h4 w' y;exact⟨bP _ _ _ _ rfl J,by rw[we.out],by first|exact A|(rw[HN.out];exact A)⟩
      ·have we:ca (R=9):=by unfold ca;rw[rn.out,cv hp];rfl
       have CM:(f.c.par==0)=qS:=by rw[cR];exact hp
       go_wp2_with (first
        |(go_at_call 98;refine tj.out.mono ?_;rintro e K ⟨rfl,rl⟩;have z8:K.cell? ⟨N+1,0,qu⟩=qt (Z U 0):=(rl.cell (p:=⟨N+1,0,qu⟩) sB).trans z0;have f8:K.frozen? ⟨N+1,0,qu⟩=qS:=(rl.frozen (p:=⟨N+1,0,qu⟩) sB).trans f0;obtain⟨u1,u2,u3,u4,u5⟩:=wb.out K rl;have tl:=zH rl;clear rl)
        |(go_at_call 99;refine(ay _ _ _).mono ?_;rintro e w9 ⟨rfl,rfl⟩))
       obtain⟨h3,h4⟩:=vy.out K 9 tl.out;refine⟨[D],rfl,by simp,by intro b hb;simp at hb;subst hb;exact h3,Z U 9,λw' y=> ?_⟩;obtain⟨J,A⟩:=h4 w' y;exact⟨bP _ _ _ _ rfl J,by rw[we.out],by first|exact A|(rw[HN.out];exact A)⟩
end
end Go.Proofs.YtjomgckjhcfbgaaGreat
