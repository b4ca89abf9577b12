/- Walks. -/
import Derived.Laws.IdiomCopy
import Derived.Sort.LoopGhostIn
import Derived.Sort.QuietIn
import Derived.Test.YtjomgckjhcfbgaaGreatP8
set_option maxRecDepth 100000
set_option maxHeartbeats 64000000
set_option linter.all false
namespace Go.Proofs.YtjomgckjhcfbgaaGreat
open Go.RowKit
open Go.Proofs.Tryz renaming prog→am,underlying184→cG,underlying38→cJ,underlying25→fh,underlying90→nx
open _root_.List renaming getElem?_eq_getElem→ap,setIfInBounds_toArray→bh,getElem?_eq_some_iff→bo,set_cons_zero→bx,set_cons_succ→ca,mem_of_getElem?→ci,take_length→cL,mem_append→dg,length_cons→eh,append_assoc→ei,map_append→et,append_nil→eA,nil_append→eK,flatMap_cons→fm,mem_map→fL,cons_append→gh,all_eq_true→gn,drop_eq_getElem_cons→ij,mem_flatMap→iv,any_eq_true→js,any_eq_false→j8,length_nil→ks,map_cons→li,all_eq_false→lR,mem_cons_of_mem→mS,append_toArray→rb
open Go.RowKit.Below renaming refl→aq,mono→pj
open _root_ renaming Int→aw,Nat→bj,ByteArray→bl,List→bp,if_neg→bw,decide_eq_false→cm,Option→cC,if_pos→cH,beq_eq_false_iff_ne→cN,decide_eq_true→cR,Array→dl,absurd→fz,False→lj,of_decide_eq_false→qu
open Go.RowKit renaming Below→aE,Hid→cg,intOf→dp
open _root_.Array renaming getElem?_eq_some_iff→br,all_toList→j9,getElem?_eq_getElem→n8
open Go renaming cell_of_row→bt,wpList_load_row→cf,run_storeCells_new→cr,Value→cw,storeCells→dd,frozen_of_row→de,bodyPost_ret→dk,maxLen→du,Addr→fg,Calls→fj,TypeId→fX,results_none→ge,heap_setCell_same→gi,wpListIn_nil→kt,bodyPost_end→n4,wpIn_region_lit→pw,results→rr,wpIn_wide→rv
open _root_.Nat renaming le_refl→cd,zero_le→cM,le_trans→eN
open Go.Value renaming oneCell'→cn,string→tm,slice→tn,pointer→tr,bool→tt,agg→tv,int→Z
open _root_.Option.some renaming inj→cy
open Go.Exit renaming inBlock→cQ,noGoto_ret→ie
open Go.Addr renaming add_lit→cU
open Go.Act renaming put→cY
open _root_.Int renaming toNat_natCast→ep
open Go.Fence renaming wide→gx
open _root_.Option renaming some→tf,none→th
open _root_.Bool renaming true→ti,false→tj
open Go.Obj renaming cells→tA
open Go.Ending renaming returned→tB
open Go.IntKind renaming i64→U
open Tryz
theorem nW (s:St):(s.cells.all λx=>x.oneCell')=ti:=by
 rw[<-j9];simp[St.cells,DN.cells,cn]
theorem nX (s:Fd):(s.cells.all λx=>x.oneCell')=ti:=by
 rw[<-j9];simp[Fd.cells,cn]
theorem fu (f:Fn):(f.cells.all λx=>x.oneCell')=ti:=by
 rw[<-j9];simp[Fn.cells,dP.cells,cn]
theorem jG {α:Type}{l:bp α}{j:bj}{x:α}(f:α->bl)(h:l[j]?=tf x):(l.take (j+1)).map f=(l.take j).map f++[f x]:=by
 rw[aS h,et];rfl
theorem fJ.grown {w w':World}{B base:bj}{v:cw}{xs:bp bl}(d:fJ w base v xs)(e:w.grownBy w' v.ownBlock)(f:B<=base)(g:B<=w.heap.size):aE B w w':=
 (aq B w).grown e g (λk h=>eN f (d.lt k h).1)
theorem zg (m:Mo)(w:World)(h:m.inn w)(hs:m.ss.length<=90000)(hf:m.fs.length<=90000)(vp:∀s∈m.ss,s.fs.length<=90000):
  zP 94 #[tv m.cells] w (tt (dh m)):=by
 have HM:=zH h;have AN:=zH vp;obtain⟨R,hR⟩:=zE (dh m);have HR:cg (R=((m.ss.any λs=>decide (¬(s.fs.map Fd.nm).Nodup))||decide (¬(m.ss.map λs=>s.s.nm).Nodup)||decide (¬(m.fs.map λf=>f.c.nm).Nodup))):=hR.symm;rw[hR];clear h vp hR;obtain⟨N,hN⟩:=zE w.heap.size;obtain⟨W1,vy⟩:=zE (w.alloc (tA m.cells 25));have yW:=ik vy hN;have zc:W1.heap.size=N+1:=by rw[<-vy];simp[hN]
 have zd:W1.heap[N]?=tf (tA m.cells 25 (0,0)):=by rw[<-vy,<-hN];exact alloc_at _ _
 have HK:cg (∀W,aE (N+1) W1 W->W.cell? ⟨N,0,th⟩=tf (tn m.sA m.ss.length m.sC)/\W.cell? ⟨N,1,th⟩=tf (tn m.fA m.fs.length m.fC)/\N<W.heap.size):=λW hW=>by
  have q:=(hW.block N (by omega)).trans zd;exact⟨by rw[bt _ _ _ _ _ _ q];rfl,by rw[bt _ _ _ _ _ _ q];rfl,(br.1 q).1⟩
 have we:=zH yW;have HN:=zH hN;obtain⟨k0,k1,B4⟩:=HK.out W1 (aq _ _);clear yW zd;go_enter func94,ntmps94
 go_wp2_with fail
 go_loopw [3,15] (λv c wr=>∃(j:bj) (ao:cC fg) (cap:bj),j<=m.ss.length/\c= Z U (j:aw)/\v= tn ao ((m.ss.take j).map λs=>s.s.nm).length cap/\fJ wr (N+1) v ((m.ss.take j).map λs=>s.s.nm)/\(∀s∈m.ss.take j,(s.fs.map Fd.nm).Nodup)/\aE (N+1) W1 wr) (λ_ c _=>m.ss.length-(dp c).toNat)
 case atStart=>exact⟨0,th,0,cM _,rfl,rfl,fJ.nil _ _,by simp,aq _ _⟩
 case round=>
  clear k0 k1;obtain⟨j,ao,cap,hj,rfl,rfl,wg,wj,hb⟩:=hrel;have HB:=zH hb;have uc:=zH wg;have vq:=zH wj;obtain⟨k0,k1,B5⟩:=HK.out wr hb;have AS:N+1<=wr.heap.size:=by omega
  have wk:cg (aE N w wr):=we.out.trans (hb.mono (by omega))
  by_cases wl:j<m.ss.length
  ·obtain⟨s,vr⟩:∃s,m.ss[j]?=tf s:=⟨_,ap wl⟩
   have ue:=ci vr;have vt:=HM.out.sin s ue;obtain⟨b0,zj,hA,AT,zp⟩:=HM.out.srow (by intro e;rw[e] at wl;simp at wl);have AW:b0<N:=by omega
   have A1:cg (∀k u,s.cells.toList[k]?=tf u->wr.cell? ((⟨b0,zj+j*4,th⟩:fg).add k)=tf u):=λk u hu=>by
    rw[cU,wk.out.cell (p:=⟨b0,_,th⟩) AW];exact zp j s vr k u hu
   obtain⟨M,hM⟩:=zE wr.heap.size;obtain⟨E,ud⟩:=zE (wr.alloc (tA s.cells 90));have hst:∀(c:dl cw),c.size=4->(dd ⟨M,0,th⟩ s.cells.toList 0).run am (wr.alloc (tA c 90))= .ok () E:=λc hc=>by
    rw[<-ud,<-hM];exact cr (P:=am) wr 90 c s.cells (by show _=tf 4;kernel_rfl) hc (nW s)
   have zr:E.heap[M]?=tf (tA s.cells 90 (0,0)):=by rw[<-ud,<-hM];exact alloc_at _ _
   have B6:E.heap.size=M+1:=by rw[<-ud];simp[hM]
   have ws:cg (aE (N+1) W1 E):=by rw[<-ud];exact HB.out.alloc AS _
   have zs:cg (fJ E (N+1) (tn ao ((m.ss.take j).map λs=>s.s.nm).length cap) ((m.ss.take j).map λs=>s.s.nm)):=by rw[<-ud];exact uc.out.below ((aq _ _).alloc (cd _) _)
   have xf:cg (∀W,aE (M+1) E W->W.cell? ⟨M,0,th⟩=tf (tm s.s.nm)/\W.cell? ⟨M,1,th⟩=tf (tn s.s.fA s.fs.length s.s.fC)/\M<W.heap.size):=λW hW=>by
    have q:=(hW.block M (by omega)).trans zr;exact⟨by rw[bt _ _ _ _ _ _ q];rfl,by rw[bt _ _ _ _ _ _ q,<-vt.nf];rfl,(br.1 q).1⟩
   obtain⟨m0,m1,B7⟩:=xf.out E (aq _ _);have A2:cg (aH Fd.cells 5 w w.heap.size s.s.fA s.fs):=vt.row;have A3:cg (∀f∈s.fs,f.nm.size<=du):=vt.fnm;have vp:=AN.out s ue;have xj:=zH vr;have B8:(j:aw)<(m.ss.length:aw):=by omega
   obtain⟨g,K⟩:=zE ((m.ss.take j).map λs=>s.s.nm);have xl:g.length<=90000:=by rw[<-K];simp;omega
   rw[K] at zs⊢;have A4:=zH K;rw[hA] at k0⊢;clear hb wg wj uc ue vt AT zp vr zr ud K
   go_upto_region 7 with(refine ay rfl 90 _ rfl ⟨b0,zj+j*4,th⟩ rfl s.cells _ A1.out nx rfl (by kernel_rfl) ?_)
   go_loopw [7,22] (λv c wq=>∃(q:bj) (ao:cC fg) (cap:bj),q<=s.fs.length/\c= Z U (q:aw)/\v= tn ao ((s.fs.take q).map Fd.nm).length cap/\fJ wq (M+1) v ((s.fs.take q).map Fd.nm)/\aE (M+1) E wq) (λ_ c _=>s.fs.length-(dp c).toNat)
   case atStart=>exact⟨0,th,0,cM _,rfl,rfl,fJ.nil _ _,aq _ _⟩
   case round=>
    obtain⟨q,tD,tE,hq,rfl,rfl,tR,t⟩:=hrel;have tS:=zH t;have y:=zH tR;have up:M+1<=wr.heap.size:=by have:=t.size;omega
    clear m0 m1 k0 k1;obtain⟨m0,m1,_⟩:=xf.out _ t
    by_cases tU:q<s.fs.length
    ·obtain⟨f,tW⟩:∃f,s.fs[q]?=tf f:=⟨_,ap tU⟩
     obtain⟨fb,ur,xo,xp,uv⟩:=A2.out (by intro e;rw[e] at tU;simp at tU);have xr:fb<N:=by omega
     have xt:cg (aE N w wr):=we.out.trans ((ws.out.trans (t.mono (by omega))).mono (by omega));have xF:cg (∀k u,f.cells.toList[k]?=tf u->wr.cell? ((⟨fb,ur+q*5,th⟩:fg).add k)=tf u):=λk u hu=>by
      rw[cU,xt.out.cell (p:=⟨fb,_,th⟩) xr];exact uv q f tW k u hu
     obtain⟨P,hP⟩:=zE wr.heap.size;obtain⟨G,o⟩:=zE (wr.alloc (tA f.cells 92));have A5:∀(c:dl cw),c.size=5->(dd ⟨P,0,th⟩ f.cells.toList 0).run am (wr.alloc (tA c 92))= .ok () G:=λc hc=>by
      rw[<-o,<-hP];exact cr (P:=am) wr 92 c f.cells (by show _=tf 5;kernel_rfl) hc (nX f)
     have ux:G.heap[P]?=tf (tA f.cells 92 (0,0)):=by rw[<-o,<-hP];exact alloc_at _ _
     have xT:G.heap.size=P+1:=by rw[<-o];simp[hP]
     have p0:=zR ux 0 (tm f.nm);have ya:cg (aE (M+1) E G):=by rw[<-o];exact tS.out.alloc up _
     have ua:cg (fJ G (M+1) (tn tD ((s.fs.take q).map Fd.nm).length tE) ((s.fs.take q).map Fd.nm)):=by rw[<-o];exact y.out.below ((aq _ _).alloc (cd _) _)
     have yb:=zH tW;have A6:(q:aw)<(s.fs.length:aw):=by omega
     obtain⟨XQ,tG⟩:=zE ((s.fs.take q).map Fd.nm);have yd:XQ.length<=90000:=by rw[<-tG];simp;omega
     have ye:=zH tG;rw[xo];rw[tG] at ua⊢;clear t tR y tW xp uv ux o tG
     go_wp2_with (first
      |(refine ay rfl 92 _ rfl ⟨fb,ur+q*5,th⟩ rfl f.cells _ xF.out underlying92 rfl (by kernel_rfl) ?_)
      |(at_builtin;refine gm rfl (.tmp 26) (.tmp 29) rfl (M+1) (tn tD XQ.length tE) XQ rfl (ua.out.below ((aq _ _).alloc (cd _) _)) ⟨P+1,0,th⟩ f.nm 1 rfl ?c0 yd ?c1 ?_))
     case c0=>rw[<-xT,World.cell?_alloc_new];rfl
     case c1=>rw[World.size_alloc];omega
     intro v5 w5 tM vc;obtain⟨X5,ub⟩:=zE (XQ++[f.nm]);rw[ub] at tM;obtain⟨vd,vf,rfl⟩:=tM.isSlice;have vh:cg (X5=(s.fs.take (q+1)).map Fd.nm):=by unfold cg;rw[jG Fd.nm yb.out,ye.out,ub]
     have yi:cg (aE (M+1) E w5):=(ya.out.alloc (by omega) _).trans (fJ.grown (ua.out.below ((aq _ _).alloc (cd _) _)) vc (cd _) (by simp;omega));have yk:cg (fJ w5 (M+1) (tn vd X5.length vf) X5):=tM;clear tM vc ub;go_wp2;go_roundw
     case rel=>exact⟨q+1,vd,vf,by omega,by go_num,by rw[<-vh.out],by rw[<-vh.out];exact yk.out,yi.out⟩
     case measure=>simp[dp];omega
    ·have yp:q=s.fs.length:=by omega
     subst yp;rw[cL] at y⊢;obtain⟨XF,tP⟩:=zE (s.fs.map Fd.nm);have vu:cg (zP 133 #[tn tD XF.length tE] wr (tt (decide (¬XF.Nodup)))):=by
      rw[<-tP];exact jF wr tE tD (s.fs.map Fd.nm) (by simp;exact vp) (λx hx=>by
       obtain⟨f,yq,rfl⟩:=fL.1 hx;exact A3.out f yq) y.out.at_
     rw[tP];have zv:=zH tP;clear tP y;obtain⟨d,hd⟩:=zE (decide (¬XF.Nodup));rw[hd] at vu;have HD:=zH hd;clear hd tR t;cases d with
     |true=>
      have Bk:cg (R=ti):=by
       unfold cg;rw[HR.out,js.2 ⟨s,ci xj.out,by rw[zv.out];exact HD.out⟩];rfl
      go_wp2_with (go_at_call 133;refine vu.out.mono ?_;rintro e w6 ⟨rfl,J⟩;have z:=zH J;clear J)
      go_ret;rw[Bk.out]
      try rw[HN.out]
      exact⟨rfl,we.out.trans ((ws.out.trans ((tS.out.trans (z.out.mono up)).mono (by omega))).mono (by omega))⟩
     |false=>
      have Bm:cg ((s.fs.map Fd.nm).Nodup):=by
       unfold cg;rw[zv.out];exact Decidable.of_not_not (qu HD.out)
      go_upto_region 13 with(go_at_call 133;refine vu.out.mono ?_;rintro e w6 ⟨rfl,J⟩;have z:cg (aE (M+1) E w6):=tS.out.trans (J.mono up);clear J)
      obtain⟨n0,_,_⟩:=xf.out w6 z.out;have B9:M+1<=w6.heap.size:=by have:=z.out.size;omega
      have An:cg (fJ w6 (N+1) (tn ao g.length cap) g):=by
       refine zs.out.below (pj z.out ?_);omega
      clear m0 m1 vu
      go_wp2_with (at_builtin;refine gm rfl (.tmp 34) (.tmp 37) rfl (N+1) (tn ao g.length cap) g rfl (An.out.below ((aq _ _).alloc (cd _) _)) ⟨w6.heap.size,0,th⟩ s.s.nm 1 rfl ?c0 xl ?c1 ?_)
      case c0=>rw[World.cell?_alloc_new];rfl
      case c1=>rw[World.size_alloc];omega
      intro v7 w7 vx At;obtain⟨X7,yr⟩:=zE (g++[s.s.nm]);rw[yr] at vx;obtain⟨Ax,AD,rfl⟩:=vx.isSlice;have AE:cg (X7=(m.ss.take (j+1)).map λs=>s.s.nm):=by unfold cg;rw[jG (λs:St=>s.s.nm) xj.out,A4.out,yr]
      have yv:cg (aE (N+1) W1 w7):=((ws.out.trans (z.out.mono (by omega))).alloc (by omega) _).trans (fJ.grown (An.out.below ((aq _ _).alloc (cd _) _)) At (cd _) (by simp;omega));have Bs:cg (fJ w7 (N+1) (tn Ax X7.length AD) X7):=vx;clear vx At yr;go_wp2;go_roundw
      case rel=>exact⟨j+1,Ax,AD,by omega,by go_num,by rw[<-AE.out],by rw[<-AE.out];exact Bs.out,dw (p:=λs:St=>(s.fs.map Fd.nm).Nodup) vq.out xj.out Bm.out,yv.out⟩
      case measure=>simp[dp];omega
  ·have By:j=m.ss.length:=by omega
   subst By;rw[cL] at uc vq⊢;obtain⟨g,K⟩:=zE (m.ss.map λs=>s.s.nm);have xl:g.length<=90000:=by rw[<-K];simp;omega
   rw[K] at uc⊢;have vm:cg (R=(decide (¬g.Nodup)||decide (¬(m.fs.map λf=>f.c.nm).Nodup))):=by
    unfold cg;rw[HR.out,K];have e:(m.ss.any λs=>decide (¬(s.fs.map Fd.nm).Nodup))=tj:=by
     rw[j8];intro s ue;have:=vq.out s ue;simpa using this
    rw[e,Bool.false_or]
   have BE:cg (∀x∈g,x.size<=du):=λx hx=>by
    rw[<-K] at hx;obtain⟨s,zc,rfl⟩:=fL.1 hx;exact(HM.out.sin s zc).nm
   clear hb wg wj vq HR K
   go_upto_region 16 with(fail)
   obtain⟨A,BT⟩:∃A,A=wr:=⟨_,rfl⟩
   subst BT
   go_loopw [4,43] (λv c wq=>∃(q:bj) (ao:cC fg) (cap:bj),q<=m.fs.length/\c= Z U (q:aw)/\v= tn ao ((m.fs.take q).map λf=>f.c.nm).length cap/\fJ wq A.heap.size v ((m.fs.take q).map λf=>f.c.nm)/\aE A.heap.size A wq) (λ_ c _=>m.fs.length-(dp c).toNat)
   case atStart=>exact⟨0,th,0,cM _,rfl,rfl,fJ.nil _ _,aq _ _⟩
   case round=>
    obtain⟨q,tD,tE,hq,rfl,rfl,tR,t⟩:=hrel;have tS:=zH t;have y:=zH tR;have up:=t.size;clear k0 k1
    by_cases tU:q<m.fs.length
    ·obtain⟨f,tW⟩:∃f,m.fs[q]?=tf f:=⟨_,ap tU⟩
     obtain⟨fb,ur,xo,xp,uv⟩:=HM.out.frow (by intro e;rw[e] at tU;simp at tU);have xr:fb<N:=by omega
     have xt:cg (aE N w wr):=wk.out.trans (t.mono (by omega));have xF:cg (∀k u,f.cells.toList[k]?=tf u->wr.cell? ((⟨fb,ur+q*8,th⟩:fg).add k)=tf u):=λk u hu=>by
      rw[cU,xt.out.cell (p:=⟨fb,_,th⟩) xr];exact uv q f tW k u hu
     obtain⟨P,hP⟩:=zE wr.heap.size;obtain⟨G,o⟩:=zE (wr.alloc (tA f.cells 38));have A5:∀(c:dl cw),c.size=8->(dd ⟨P,0,th⟩ f.cells.toList 0).run am (wr.alloc (tA c 38))= .ok () G:=λc hc=>by
      rw[<-o,<-hP];exact cr (P:=am) wr 38 c f.cells (by show _=tf 8;kernel_rfl) hc (fu f)
     have ux:G.heap[P]?=tf (tA f.cells 38 (0,0)):=by rw[<-o,<-hP];exact alloc_at _ _
     have xT:G.heap.size=P+1:=by rw[<-o];simp[hP]
     have p0:=zR ux 0 (tm f.c.nm);have ya:cg (aE A.heap.size A G):=by rw[<-o];exact tS.out.alloc up _
     have ua:cg (fJ G A.heap.size (tn tD ((m.fs.take q).map λf=>f.c.nm).length tE) ((m.fs.take q).map λf=>f.c.nm)):=by rw[<-o];exact y.out.below ((aq _ _).alloc (cd _) _)
     have yb:=zH tW;have A6:(q:aw)<(m.fs.length:aw):=by omega
     obtain⟨XQ,tG⟩:=zE ((m.fs.take q).map λf=>f.c.nm);have yd:XQ.length<=90000:=by rw[<-tG];simp;omega
     have ye:=zH tG;rw[xo];rw[tG] at ua⊢;clear t tR y tW xp uv ux o tG
     go_wp2_with (first
      |(refine ay rfl 38 _ rfl ⟨fb,ur+q*8,th⟩ rfl f.cells _ xF.out cJ rfl (by kernel_rfl) ?_)
      |(at_builtin;refine gm rfl (.tmp 47) (.tmp 50) rfl A.heap.size (tn tD XQ.length tE) XQ rfl (ua.out.below ((aq _ _).alloc (cd _) _)) ⟨P+1,0,th⟩ f.c.nm 1 rfl ?c0 yd ?c1 ?_))
     case c0=>rw[<-xT,World.cell?_alloc_new];rfl
     case c1=>rw[World.size_alloc];omega
     intro v5 w5 tM vc;obtain⟨X5,ub⟩:=zE (XQ++[f.c.nm]);rw[ub] at tM;obtain⟨vd,vf,rfl⟩:=tM.isSlice;have vh:cg (X5=(m.fs.take (q+1)).map λf=>f.c.nm):=by unfold cg;rw[jG (λf:Fn=>f.c.nm) yb.out,ye.out,ub]
     have yi:cg (aE A.heap.size A w5):=(ya.out.alloc (by omega) _).trans (fJ.grown (ua.out.below ((aq _ _).alloc (cd _) _)) vc (cd _) (by simp;omega));have yk:cg (fJ w5 A.heap.size (tn vd X5.length vf) X5):=tM;clear tM vc ub;go_wp2;go_roundw
     case rel=>exact⟨q+1,vd,vf,by omega,by go_num,by rw[<-vh.out],by rw[<-vh.out];exact yk.out,yi.out⟩
     case measure=>simp[dp];omega
    ·have yp:q=m.fs.length:=by omega
     subst yp;rw[cL] at y⊢;obtain⟨XF,tP⟩:=zE (m.fs.map λf=>f.c.nm);rw[tP] at y vm⊢;have AF:∀x∈XF,x.size<=du:=λx hx=>by
      rw[<-tP] at hx;obtain⟨f,yq,rfl⟩:=fL.1 hx;exact(HM.out.fin f yq).nm
     have BY:XF.length<=90000:=by rw[<-tP];simpa using hf
     have yy:cg (zP 133 #[tn ao g.length cap] wr (tt (decide (¬g.Nodup)))):=
      jF wr cap ao g xl BE.out ((uc.out.below tS.out).at_)
     have AH:cg (∀W,aE wr.heap.size wr W->zP 133 #[tn tD XF.length tE] W (tt (decide (¬XF.Nodup)))):=λW hW=>
      jF W tE tD XF BY AF ((y.out.below hW).at_)
     obtain⟨d,hd⟩:=zE (decide (¬g.Nodup));obtain⟨d2,AI⟩:=zE (decide (¬XF.Nodup));rw[hd] at yy vm;rw[AI] at AH vm;have AK:cg (aE N w wr):=wk.out.trans (tS.out.mono (by omega));clear tR t tP AF y uc hd AI;cases d with
     |true=>
      go_wp2_with (go_at_call 133;refine yy.out.mono ?_;rintro e w6 ⟨rfl,J⟩;have z:=zH J;clear J)
      go_ret;rw[vm.out]
      try rw[HN.out]
      exact⟨rfl,AK.out.trans (z.out.mono (by omega))⟩
     |false=>
      go_upto_region 20 with(fail)
      go_wp2_with (first
       |(go_at_call 133;refine(AH.out _ z.out).mono ?_;rintro e w7 ⟨rfl,AM⟩;have yv:=zH AM;clear AM)
       |(go_at_call 133;refine yy.out.mono ?_;rintro e w6 ⟨rfl,J⟩;have z:=zH J;clear J))
      go_ret;rw[vm.out]
      try rw[HN.out]
      exact⟨rfl,(AK.out.trans (z.out.mono (by omega))).trans (yv.out.mono (by have:=z.out.size;omega))⟩
def vK (t:Ty):dl cw:=#[tv #[tt t.1,tm t.2]]
def mV (N B:bj)(k:bj):Prop:=k<N\/k=B
def GJ (f:Fn):bp Ty:=f.ret::f.vs.map Vr.ty
def GK (s:St):bp Ty:=s.fs.map Fd.ty
def kJ (m:Mo)(j:bj):bp Ty:=(m.fs.drop j).flatMap GJ
def kY (m:Mo)(j:bj):bp Ty:=(m.ss.drop j).flatMap GK++kJ m 0
theorem zh (m:Mo):bO m=kY m 0:=rfl
theorem Bj {m:Mo}{j:bj}{s:St}(h:m.ss[j]?=tf s):kY m j=(s.fs.drop 0).map Fd.ty++kY m (j+1):=by
 obtain⟨d,e⟩:=bo.1 h;unfold kY;rw[ij d,e,fm,ei];rfl
theorem CZ (m:Mo):kY m m.ss.length=kJ m 0:=by
 unfold kY;simp
theorem Bl {m:Mo}{j:bj}{f:Fn}(h:m.fs[j]?=tf f):kJ m j=f.ret::((f.vs.drop 0).map Vr.ty++kJ m (j+1)):=by
 obtain⟨d,e⟩:=bo.1 h;unfold kJ;rw[ij d,e,fm];rfl
theorem C8 (m:Mo):kJ m m.fs.length=[]:=by
 unfold kJ;simp
theorem mF {α:Type}{l:bp α}{q:bj}{x:α}(f:α->Ty)(h:l[q]?=tf x):(l.drop q).map f=f x::(l.drop (q+1)).map f:=by
 obtain⟨d,e⟩:=bo.1 h;rw[ij d,e,li]
theorem nZ {α:Type}(l:bp α)(f:α->Ty):(l.drop l.length).map f=[]:=by simp
theorem xm (f:Vr):(f.cells.all λx=>x.oneCell')=ti:=by
 rw[<-j9];simp[Vr.cells,cn]
theorem rY {d r:bp Ty}{x:Ty}{xs:bp Ty}(h:xs=d++x::r):(d++[x])<+:xs/\xs=(d++[x])++r:=by
 subst h;exact⟨⟨r,by simp⟩,by simp⟩
theorem zi (w0 w:World)(m:Mo)(B:bj)(h:m.inn w0)(hb:aE w0.heap.size w0 w)(hB:w.heap[B]?=tf (tA m.cells 25 (0,0)))(vq:∀s∈m.ss,s.fs.length<=90000)(vr:∀f∈m.fs,f.vs.length<=90000)(AT:m.ss.length<=90000)(AW:m.fs.length<=90000):
  Iter am 134 #[tr (tf ⟨B,0,th⟩)] vK (bO m) (mV w0.heap.size B) w:=by
 intro l J Jx C W vt hst xr hstx xt hJ;have vm:=zH hst;have ud:=zH xr;have HM:=zH xt;have HJ:=zH hJ;have yq:=zH vq;have yr:=zH vr;have xF:W.heap[B]?=tf (tA m.cells 25 (0,0)):=(vt.block B (br.1 hB).1).trans hB;obtain⟨N,hN⟩:=zE w0.heap.size;rw[hN] at ud;have HR:cg (∀W1,Ext (λk=>¬mV N B k) W W1->W1.cell? ⟨B,0,th⟩=tf (tn m.sA m.ss.length m.sC)/\W1.cell? ⟨B,1,th⟩=tf (tn m.fA m.fs.length m.fC)/\m.inn W1/\B<W1.heap.size):=by
  intro W1 hx;have q:=hx.heap xF (λh=>h (.inr rfl));refine⟨by rw[bt _ _ _ _ _ _ q];rfl,by rw[bt _ _ _ _ _ _ q];rfl, ?_,(br.1 q).1⟩;have b1:aE w0.heap.size w0 W:=hb.trans (vt.mono hb.size);have b2:aE N W W1:=hx.below (by rw[<-hN];exact b1.size) (λk hk=>by
   by_cases e:k<N
   ·exact fz (.inl e) hk
   ·omega)
  exact h.below (b1.trans (by rw[hN];exact b2))
 obtain⟨y,vu⟩:=zE (bO m);rw[vu] at HM⊢;have yv:cg (y=kY m 0):=by rw[<-vu];exact zh m
 obtain⟨c0,c1,_,A1⟩:=HR.out W (Ext.refl _ _);clear hst xr hstx xt hJ h hb hB vt xF vu hN vq vr
 show fj _ _ #[.func (.yield l) #[] #[],tr (tf ⟨B,0,th⟩)] _ _
 go_enter func134,ntmps134
 go_wp2_with fail
 go_loopw [14] (λc wr=>∃(j:bj) (d:bp Ty) (C:bj->Prop),j<=m.ss.length/\c= Z U (j:aw)/\y=d++kY m j/\J d C wr/\Ext (λk=>¬mV N B k) W wr) (λc _=>m.ss.length-(dp c).toNat)
 case atStart=>exact⟨0,[],C,cM _,rfl,yv.out,HJ.out,Ext.refl _ _⟩
 case round=>
  clear c0 c1;obtain⟨j,d,C1,hj,rfl,z,tS,tD⟩:=hrel;have ue:=zH tD;have tU:=zH tS;have A2:=zH z;obtain⟨c0,c1,tE,A3⟩:=HR.out wr tD
  by_cases tW:j<m.ss.length
  ·obtain⟨s,hs⟩:∃s,m.ss[j]?=tf s:=⟨_,ap tW⟩
   have vx:=ci hs;have xT:=tE.sin s vx;obtain⟨b0,ya,hA,yy,yb⟩:=tE.srow (by intro e;rw[e] at tW;simp at tW);have yW:cg (∀k u,s.cells.toList[k]?=tf u->wr.cell? ((⟨b0,ya+j*4,th⟩:fg).add k)=tf u):=λk u hu=>by
    rw[cU];exact yb j s hs k u hu
   obtain⟨M,hM⟩:=zE wr.heap.size;obtain⟨W2,up⟩:=zE (wr.alloc (tA s.cells 90));have hst:∀(c:dl cw),c.size=4->(dd ⟨M,0,th⟩ s.cells.toList 0).run am (wr.alloc (tA c 90))= .ok () W2:=λc hc=>by
    rw[<-up,<-hM];exact cr (P:=am) wr 90 c s.cells (by show _=tf 4;kernel_rfl) hc (nW s)
   have vy:W2.heap[M]?=tf (tA s.cells 90 (0,0)):=by rw[<-up,<-hM];exact alloc_at _ _
   have m1:W2.cell? ⟨M,1,th⟩=tf (tn s.s.fA s.fs.length s.s.fC):=by rw[bt _ _ _ _ _ _ vy,<-xT.nf];rfl
   have A4:M<W2.heap.size:=(br.1 vy).1;have zc:cg (Ext (λk=>¬mV N B k) W W2):=by rw[<-up];exact ue.out.alloc _
   have zd:cg (J d C1 W2):=by rw[<-up];exact vm.out _ _ _ _ tU.out ((Ext.refl _ _).alloc _)
   have yd:y=d++((s.fs.drop 0).map Fd.ty++kY m (j+1)):=by rw[z,Bj hs]
   have zj:=zH yd;have HS:=zH hs;have vq:=yq.out s vx;have zp:(j:aw)<(m.ss.length:aw):=by omega
   rw[hA] at c0⊢;clear tD tS z xT yy yb hs vy up yd tE
   go_upto_region 4 with(refine ay rfl 90 _ rfl ⟨b0,ya+j*4,th⟩ rfl s.cells _ yW.out nx rfl (by kernel_rfl) ?_)
   go_loopw [21] (λc wq=>∃(q:bj) (d:bp Ty) (C:bj->Prop),q<=s.fs.length/\c= Z U (q:aw)/\y=d++((s.fs.drop q).map Fd.ty++kY m (j+1))/\J d C wq/\Ext (λk=>¬mV N B k) W wq) (λc _=>s.fs.length-(dp c).toNat)
   case atStart=>exact⟨0,d,C1,cM _,rfl,zj.out,zd.out,zc.out⟩
   case round=>
    clear m1 c0 c1;obtain⟨q,E,C2,hq,rfl,G,ua,tG⟩:=hrel;have ur:=zH tG;have uv:=zH ua;obtain⟨_,_,we,_⟩:=HR.out wr tG
    by_cases ub:q<s.fs.length
    ·obtain⟨f,hf⟩:∃f,s.fs[q]?=tf f:=⟨_,ap ub⟩
     obtain⟨fb,ux,wg,wj,vc⟩:=(we.sin s vx).row (by intro e;rw[e] at ub;simp at ub);have wk:cg (∀k u,f.cells.toList[k]?=tf u->wr.cell? ((⟨fb,ux+q*5,th⟩:fg).add k)=tf u):=λk u hu=>by
      rw[cU];exact vc q f hf k u hu
     obtain⟨P,hP⟩:=zE wr.heap.size;obtain⟨g,K⟩:=zE (wr.alloc (tA f.cells 92));have zr:∀(c:dl cw),c.size=5->(dd ⟨P,0,th⟩ f.cells.toList 0).run am (wr.alloc (tA c 92))= .ok () g:=λc hc=>by
      rw[<-K,<-hP];exact cr (P:=am) wr 92 c f.cells (by show _=tf 5;kernel_rfl) hc (nX f)
     have R:g.heap[P]?=tf (tA f.cells 92 (0,0)):=by rw[<-K,<-hP];exact alloc_at _ _
     have p1:=zR R 1 (tt f.ptr);have p2:=zR R 2 (tm f.tgt);have zs:P<g.heap.size:=(br.1 R).1;have wl:cg (Ext (λk=>¬mV N B k) W g):=by rw[<-K];exact ur.out.alloc _
     have uc:J E C2 g:=by rw[<-K];exact vm.out _ _ _ _ uv.out ((Ext.refl _ _).alloc _)
     have ws:=zH uc;have tP:y=E++f.ty::((s.fs.drop (q+1)).map Fd.ty++kY m (j+1)):=by rw[G,mF Fd.ty hf];rfl
     have HP:=zH (rY tP);have A:=zH (HM.out E f.ty C2 g uc HP.out.1);unfold vK at A;simp only[Fd.ty] at A;have zv:(q:aw)<(s.fs.length:aw):=by omega
     rw[wg];clear tG ua G hf wj vc R K uc tP we
     go_upto_region 6 with(refine ay rfl 92 _ rfl ⟨fb,ux+q*5,th⟩ rfl f.cells _ wk.out underlying92 rfl (by kernel_rfl) ?_)
     refine(rv (n:=0)).1 ?_;refine pw (aD rfl (by simp) (.func (.yield l) #[] #[]) (w':=g) (by simp[go_sem]) ?_);simp only[cY,bh,bx,ca];refine aD rfl (by simp) (tr (tf ⟨P,1,th⟩)) (w':=g) (by simp[go_sem]) ?_;simp only[cY,bh,bx,ca];refine aD rfl (by simp) (tv #[tt f.ptr,tm f.tgt]) (w':=g) (by simp[go_sem,p1,p2]) ?_;simp only[cY,bh,bx,ca];refine fK (fv:= .func (.yield l) #[] #[]) (args:=#[tv #[tt (f.ptr,f.tgt).1,tm (f.ptr,f.tgt).2]]) rfl (.tmp 25) #[.tmp 27] _ rfl rfl (by simp[Act.eval]) A.out ?_;intro v o hv;simp only[cY,bh,bx,ca];rcases hv with⟨rfl,C',vd,t,tM⟩|⟨rfl,t⟩
     ·refine aD rfl (by simp) (tt tj) (w':=o) (by simp[go_sem]) ?_
      simp only[cY,bh,bx,ca];refine kt ?_;have vf:cg (J (E++[f.ty]) C' o/\Ext (λk=>¬mV N B k) W o):=⟨t,wl.out.trans tM (λk hk=> .inl ((ud.out _ _ _ ws.out k hk).2))⟩
      clear t tM vd p1 p2;go_wp2;go_roundw
      case rel=>exact⟨q+1,_,C',by omega,by go_num,HP.out.2,vf.out.1,vf.out.2⟩
      case measure=>simp[dp];omega
     ·refine aD rfl (by simp) (tt ti) (w':=o) (by simp[go_sem]) ?_
      simp only[cY,bh,bx,ca];refine kt ?_;have HF:cg (∃d,d<+:y/\Jx d o):=⟨_,HP.out.1,t⟩
      clear t p1 p2;go_wp2
      ((try simp only[cQ,Exit.then]);(try rw[ie]);(first|refine dk (ge rfl _ _ _) rfl ?_|refine n4 (ge rfl _ _ _) rfl ?_));exact⟨_,rfl,.inr HF.out⟩
    ·have xf:q=s.fs.length:=by omega
     subst xf;rw[nZ,eK] at G;have tR:=zH G;clear tG ua G we;go_wp2;go_roundw
     case rel=>exact⟨j+1,E,C2,by omega,by go_num,tR.out,uv.out,ur.out⟩
     case measure=>simp[dp];omega
  ·have xj:j=m.ss.length:=by omega
   subst xj;rw[CZ] at z;have tR:=zH z;obtain⟨wo,An⟩:∃wo,wo=wr:=⟨_,rfl⟩
   subst An;clear tD tS z tE
   go_upto_region 10 with(fail)
   go_loopw [35] (λc wr=>∃(j:bj) (d:bp Ty) (C:bj->Prop),j<=m.fs.length/\c= Z U (j:aw)/\y=d++kJ m j/\J d C wr/\Ext (λk=>¬mV N B k) W wr) (λc _=>m.fs.length-(dp c).toNat)
   case atStart=>exact⟨0,d,C1,cM _,rfl,tR.out,tU.out,ue.out⟩
   case round=>
    clear c0 c1 tR tU ue;obtain⟨j,d,C1,hj,rfl,z,tS,tD⟩:=hrel;have ue:=zH tD;have tU:=zH tS;obtain⟨_,_,tE,_⟩:=HR.out wr tD
    by_cases tW:j<m.fs.length
    ·obtain⟨f,hf⟩:∃f,m.fs[j]?=tf f:=⟨_,ap tW⟩
     have xl:=ci hf;have At:=(tE.fin f xl).nvars;obtain⟨fb,ux,wg,wj,vc⟩:=tE.frow (by intro e;rw[e] at tW;simp at tW);have wk:cg (∀k u,f.cells.toList[k]?=tf u->wr.cell? ((⟨fb,ux+j*8,th⟩:fg).add k)=tf u):=λk u hu=>by
      rw[cU];exact vc j f hf k u hu
     obtain⟨P,hP⟩:=zE wr.heap.size;obtain⟨g,K⟩:=zE (wr.alloc (tA f.cells 38));have zr:∀(c:dl cw),c.size=8->(dd ⟨P,0,th⟩ f.cells.toList 0).run am (wr.alloc (tA c 38))= .ok () g:=λc hc=>by
      rw[<-K,<-hP];exact cr (P:=am) wr 38 c f.cells (by show _=tf 8;kernel_rfl) hc (fu f)
     have R:g.heap[P]?=tf (tA f.cells 38 (0,0)):=by rw[<-K,<-hP];exact alloc_at _ _
     have p3:=zR R 3 (tt f.c.rp);have p4:=zR R 4 (tm f.c.rto);have zs:P<g.heap.size:=(br.1 R).1;have wl:cg (Ext (λk=>¬mV N B k) W g):=by rw[<-K];exact ue.out.alloc _
     have uc:J d C1 g:=by rw[<-K];exact vm.out _ _ _ _ tU.out ((Ext.refl _ _).alloc _)
     have ws:=zH uc;have Ax:cg (¬C1 P):=λh=>by have:=(ud.out _ _ _ tU.out P h).1;omega
     have AD:=zH R;have tP:y=d++f.ret::((f.vs.drop 0).map Vr.ty++kJ m (j+1)):=by rw[z,Bl hf]
     have HP:=zH (rY tP);have A:=zH (HM.out d f.ret C1 g uc HP.out.1);unfold vK at A;simp only[Fn.ret] at A;have zp:(j:aw)<(m.fs.length:aw):=by omega
     have vr:=yr.out f xl;have AE:cg (∀W1,Ext (λk=>¬mV N B k) W W1->aH Vr.cells 3 W1 W1.heap.size f.c.varsA f.vs):=λW1 hx=>((HR.out W1 hx).2.2.1.fin f xl).vars;rw[wg];clear tD tS z hf wj vc R K uc tP tE
     go_upto_region 12 with(refine ay rfl 38 _ rfl ⟨fb,ux+j*8,th⟩ rfl f.cells _ wk.out cJ rfl (by kernel_rfl) ?_)
     refine(rv (n:=0)).1 ?_;refine pw (aD rfl (by simp) (.func (.yield l) #[] #[]) (w':=g) (by simp[go_sem]) ?_);simp only[cY,bh,bx,ca];refine aD rfl (by simp) (tr (tf ⟨P,3,th⟩)) (w':=g) (by simp[go_sem]) ?_;simp only[cY,bh,bx,ca];refine aD rfl (by simp) (tr (tf ⟨P,3,th⟩)) (w':=g) (by simp[go_sem]) ?_;simp only[cY,bh,bx,ca];refine aD rfl (by simp) (tv #[tt f.c.rp,tm f.c.rto]) (w':=g) (by simp[go_sem,p3,p4]) ?_;simp only[cY,bh,bx,ca];refine fK (fv:= .func (.yield l) #[] #[]) (args:=#[tv #[tt (f.c.rp,f.c.rto).1,tm (f.c.rp,f.c.rto).2]]) rfl (.tmp 39) #[.tmp 42] _ rfl rfl (by simp[Act.eval]) A.out ?_;intro v o hv;simp only[cY,bh,bx,ca];rcases hv with⟨rfl,C',vd,t,tM⟩|⟨rfl,t⟩
     ·refine aD rfl (by simp) (tt tj) (w':=o) (by simp[go_sem]) ?_
      simp only[cY,bh,bx,ca];refine kt ?_;have vf:cg (J (d++[f.ret]) C' o/\Ext (λk=>¬mV N B k) W o):=⟨t,wl.out.trans tM (λk hk=> .inl ((ud.out _ _ _ ws.out k hk).2))⟩
      have q3:=tM.heap AD.out Ax.out;have p2:o.cell? ⟨P,2,th⟩=tf (tn f.c.varsA f.vs.length f.c.varsC):=by rw[bt _ _ _ _ _ _ q3,<-At];rfl
      have A5:P<o.heap.size:=(br.1 q3).1;have AF:cg (y=(d++[f.ret])++((f.vs.drop 0).map Vr.ty++kJ m (j+1))):=HP.out.2;clear t tM vd p3 p4 q3 A;obtain⟨A6,AH⟩:∃wo,wo=wr:=⟨_,rfl⟩
      subst AH
      go_upto_region 14 with(fail)
      go_loopw [48] (λc wq=>∃(q:bj) (d:bp Ty) (C:bj->Prop),q<=f.vs.length/\c= Z U (q:aw)/\y=d++((f.vs.drop q).map Vr.ty++kJ m (j+1))/\J d C wq/\Ext (λk=>¬mV N B k) W wq) (λc _=>f.vs.length-(dp c).toNat)
      case atStart=>exact⟨0,_,C',cM _,rfl,AF.out,vf.out.1,vf.out.2⟩
      case round=>
       clear p2;obtain⟨q,E,C2,hq,rfl,G,ua,tG⟩:=hrel;have ur:=zH tG;have uv:=zH ua
       by_cases ub:q<f.vs.length
       ·obtain⟨x,hx⟩:∃x,f.vs[q]?=tf x:=⟨_,ap ub⟩
        obtain⟨vb,ye,AI,AK,yi⟩:=AE.out wr tG (by intro e;rw[e] at ub;simp at ub);have AM:cg (∀k u,x.cells.toList[k]?=tf u->wr.cell? ((⟨vb,ye+q*3,th⟩:fg).add k)=tf u):=λk u hu=>by
         rw[cU];exact yi q x hx k u hu
        obtain⟨P2,yk⟩:=zE wr.heap.size;obtain⟨W4,vh⟩:=zE (wr.alloc (tA x.cells 34));have Bk:∀(c:dl cw),c.size=3->(dd ⟨P2,0,th⟩ x.cells.toList 0).run am (wr.alloc (tA c 34))= .ok () W4:=λc hc=>by
         rw[<-vh,<-yk];exact cr (P:=am) wr 34 c x.cells (by show _=tf 3;kernel_rfl) hc (xm x)
        have vp:W4.heap[P2]?=tf (tA x.cells 34 (0,0)):=by rw[<-vh,<-yk];exact alloc_at _ _
        have p0:=zR vp 0 (tt x.ptr);have p1:=zR vp 1 (tm x.tgt);have Bm:P2<W4.heap.size:=(br.1 vp).1;have AN:cg (Ext (λk=>¬mV N B k) W W4):=by rw[<-vh];exact ur.out.alloc _
        have xo:J E C2 W4:=by rw[<-vh];exact vm.out _ _ _ _ uv.out ((Ext.refl _ _).alloc _)
        have AS:=zH xo;have tP:y=E++x.ty::((f.vs.drop (q+1)).map Vr.ty++kJ m (j+1)):=by rw[G,mF Vr.ty hx];rfl
        have xp:=zH (rY tP);have A:=zH (HM.out E x.ty C2 W4 xo xp.out.1);unfold vK at A;simp only[Vr.ty] at A;have zv:(q:aw)<(f.vs.length:aw):=by omega
        rw[AI];clear tG ua G hx AK yi vp vh xo tP
        go_upto_region 16 with(refine ay rfl 34 _ rfl ⟨vb,ye+q*3,th⟩ rfl x.cells _ AM.out underlying34 rfl (by kernel_rfl) ?_)
        refine(rv (n:=0)).1 ?_;refine pw (aD rfl (by simp) (.func (.yield l) #[] #[]) (w':=W4) (by simp[go_sem]) ?_);simp only[cY,bh,bx,ca];refine aD rfl (by simp) (tr (tf ⟨P2,0,th⟩)) (w':=W4) (by simp[go_sem]) ?_;simp only[cY,bh,bx,ca];refine aD rfl (by simp) (tv #[tt x.ptr,tm x.tgt]) (w':=W4) (by simp[go_sem,p0,p1]) ?_;simp only[cY,bh,bx,ca];refine fK (fv:= .func (.yield l) #[] #[]) (args:=#[tv #[tt (x.ptr,x.tgt).1,tm (x.ptr,x.tgt).2]]) rfl (.tmp 52) #[.tmp 54] _ rfl rfl (by simp[Act.eval]) A.out ?_;intro v o hv;simp only[cY,bh,bx,ca];rcases hv with⟨rfl,C',vd,t,tM⟩|⟨rfl,t⟩
        ·refine aD rfl (by simp) (tt tj) (w':=o) (by simp[go_sem]) ?_
         simp only[cY,bh,bx,ca];refine kt ?_;have yp:cg (J (E++[x.ty]) C' o/\Ext (λk=>¬mV N B k) W o):=⟨t,AN.out.trans tM (λk hk=> .inl ((ud.out _ _ _ AS.out k hk).2))⟩
         clear t tM vd p0 p1;go_wp2;go_roundw
         case rel=>exact⟨q+1,_,C',by omega,by go_num,xp.out.2,yp.out.1,yp.out.2⟩
         case measure=>simp[dp];omega
        ·refine aD rfl (by simp) (tt ti) (w':=o) (by simp[go_sem]) ?_
         simp only[cY,bh,bx,ca];refine kt ?_;have HF:cg (∃d,d<+:y/\Jx d o):=⟨_,xp.out.1,t⟩
         clear t p0 p1;go_wp2
         ((try simp only[cQ,Exit.then]);(try rw[ie]);(first|refine dk (ge rfl _ _ _) rfl ?_|refine n4 (ge rfl _ _ _) rfl ?_));exact⟨_,rfl,.inr HF.out⟩
       ·have xf:q=f.vs.length:=by omega
        subst xf;rw[nZ,eK] at G;have tR:=zH G;clear tG ua G;go_wp2;go_roundw
        case rel=>exact⟨j+1,E,C2,by omega,by go_num,tR.out,uv.out,ur.out⟩
        case measure=>simp[dp];omega
     ·refine aD rfl (by simp) (tt ti) (w':=o) (by simp[go_sem]) ?_
      simp only[cY,bh,bx,ca];refine kt ?_;have HF:cg (∃d,d<+:y/\Jx d o):=⟨_,HP.out.1,t⟩
      clear t p3 p4;go_wp2
      ((try simp only[cQ,Exit.then]);(try rw[ie]);(first|refine dk (ge rfl _ _ _) rfl ?_|refine n4 (ge rfl _ _ _) rfl ?_));exact⟨_,rfl,.inr HF.out⟩
    ·have xj:j=m.fs.length:=by omega
     subst xj;rw[C8,eA] at z;have tR:cg (J y C1 wr):=by unfold cg;rw[z];exact tU.out
     clear tD tS z tE;go_wp2
     ((try simp only[cQ,Exit.then]);(try rw[ie]);(first|refine dk (ge rfl _ _ _) rfl ?_|refine n4 (ge rfl _ _ _) rfl ?_));exact⟨_,rfl,.inl ⟨C1,tR.out⟩⟩
section
attribute [local go_sem] Oper.semAt_some
private theorem Ep (p:Tmp)(v:cw)(t:dl cw):((#[p]:dl Tmp).zip #[v]).foldl (λt (p,v)=>t.setIfInBounds p v) t=t.setIfInBounds p v:=by simp
theorem zk (m:Mo)(w:World):fj am 95 #[tv m.cells] w λe w'=>
  e= tB (.func (.func 134) #[] #[tr (tf ⟨w.heap.size,0,th⟩)])/\w'=w.alloc (tA m.cells 25):=by
 have d:∀(fn:Fn)(first cap:dl cw)(w:World),True:=λ_ _ _ _=>trivial;go_enter func95,ntmps95;go_wp2;go_ret;exact⟨rfl,rfl⟩
def Bn:Fn:=⟨⟨⟨#[]⟩,0,th,0,0,tj,⟨#[]⟩,0,th,0,0,th,0,[]⟩,[],[],[]⟩
def qU (d:dl cw):bj->bp cw->dl cw
 |_,[]=>d
 |o,v::r=>qU (d.setIfInBounds o v) (o+1) r
theorem og {b:bj}{t:fX}:∀(e:bp cw)(o:bj)(w:World)(d:dl cw),w.heap[b]?=tf (tA d t (0,0))->(w.setCells b o e).heap[b]?=tf (tA (qU d o e) t (0,0))
 |[],_,_,_,h=>h
 |v::r,o,w,d,h=>og r (o+1) _ _ (gi w b o d t v h)
theorem Bo (m:Mo)(g f:Fn):qU (jg m g) 2 f.cells.toList=jg m f:=by
 simp[qU,jg,Fn.cells,dP.cells]
theorem Gi (m:Mo)(g:Fn):((jg m g).all λx=>x.oneCell')=ti:=by
 rw[<-j9];simp[jg,cn]
theorem bY (tmps:dl cw)(w:World)(d:fg)(v:cw)(e:tmps[2]?=tf (tr (tf d)))(f:w.cell? d=tf v):(rr Tryz.f53 tmps).run am w= .ok v w:=by
 simp[rr,go_sem,e,f]
structure iJ (w:World)(m:Mo):Prop where
 mo:m.inn w
 sl:m.ss.length<=90000
 fl:m.fs.length<=90000
 fd:∀s∈m.ss,s.fs.length<=90000
 vl:∀f∈m.fs,f.vs.length<=90000
 al:∀f∈m.fs,∀i∈f.c.ins,i.args.length<=40
theorem World.keptBut_ext (b:bj):∀(d:bp cw)(o:bj)(w:World),Ext (·=b) w (w.setCells b o d)
 |[],_,w=>Ext.refl _ w
 |v::r,o,w=>(Ext.set1 w b o v).trans (World.keptBut_ext b r (o+1) _) (λ_ e=> .inl e)
structure RI (m:Mo)(N:bj)(XS:bp Ty)(W5:World)(pre:bp Ty)(C:bj->Prop)(W:World):Prop where
 res:W.heap[N+1]?=tf (tA #[Z U 0] 27 (0,0))
 ext:Ext (λk=>k=N+1) W5 W
 kn:∀t∈pre,m.known t=ti
 own:(C=λk=>k=N+1)\/∃(b:bj) (t:Ty),C=(λk=>k=N+1\/k=b)/\XS[pre.length]?=tf t/\W5.heap.size<=b/\W.heap[b]?=tf (tA #[tt t.1,tm t.2] 32 (0,0))
theorem RI.next {m:Mo}{N:bj}{g o:bp Ty}{d W q:World}{C:bj->Prop}(h:RI m N g d o C W)(z:N+1<d.heap.size)(f:Ext (λk=>d.heap.size<=k/\¬C k) W q):RI m N g d o C q:=by
 refine⟨f.heap h.res (λh=>by omega),h.ext.trans f (λj u=> .inr u.1),h.kn, ?_⟩;rcases h.own with e|⟨b,t,e,v,x,y⟩
 ·exact .inl e
 ·exact .inr ⟨b,t,e,v,x,f.heap y (λh=>h.2 (by rw[e];exact .inr rfl))⟩
theorem RI.res_own {m:Mo}{N:bj}{d f:bp Ty}{g W:World}{C:bj->Prop}(h:RI m N d g f C W):C (N+1):=by
 rcases h.own with e|⟨b,t,e,_⟩
 ·rw[e]
 ·rw[e];exact .inl rfl
structure RX (m:Mo)(N:bj)(W5:World)(c:Code)(C:bj->Prop)(W:World):Prop where
 ret:c= .ret
 res:W.heap[N+1]?=tf (tA #[Z U 5] 27 (0,0))
 ext:Ext (λk=>k=N+1) W5 W
 bad:(bO m).all m.known=tj
 own:C (N+1)
theorem zl (m:Mo)(w:World)(h:iJ w m):
  zP 53 #[tv m.cells] w (Z U (gZ m)):=by
 have HM:=zH h;obtain⟨R,hR⟩:=zE (gZ m);have HR:cg (R=if 30<m.ss.length\/60<m.fs.length then 2
  else if dh m=ti then 6
  else if (bO m).all m.known=tj then 5
  else if aQ (codeF m) m.fs≠0 then aQ (codeF m) m.fs
  else bN (decide (0<=m.fnIx dA)&&(match m.fs[(m.fnIx dA).toNat]? with
   |some g=>decide (g.c.par=0)&& !g.c.rp
   |none=>tj)) 9):=hR.symm
 rw[hR];clear h hR;obtain⟨N,hN⟩:=zE w.heap.size;obtain⟨W1,wk⟩:=zE ((w.alloc (tA m.cells 25)).alloc (tA #[Z U 0] 27));have A1:=vg wk hN;have wl:W1.heap.size=N+2:=by rw[<-wk];simp[hN]
 have vh:=vZ wk hN;have tP:=yo wk hN;obtain⟨W2,uc⟩:=zE (W1.alloc (tA (jg m Bn) 184));have hst:∀(c:dl cw),c.size=10->(dd ⟨N+2,0,th⟩ (jg m Bn).toList 0).run am (W1.alloc (tA c 184))= .ok () W2:=λc hc=>by
  rw[<-uc,<-wl];exact cr (P:=am) W1 184 c (jg m Bn) (by show _=tf 10;kernel_rfl) hc (Gi m Bn)
 simp only[jg,Bn,ks] at hst;have b0:=zR vh 0 (tn m.sA m.ss.length m.sC);have b1:=zR vh 1 (tn m.fA m.fs.length m.fC);have ws:aE (N+2) W1 W2:=by rw[<-uc,<-wl];exact(aq _ _).alloc (cd _) _
 have D4:W2.heap.size=N+3:=by rw[<-uc];simp[wl]
 have A2:W2.heap[N+2]?=tf (tA (jg m Bn) 184 (0,0)):=by rw[<-uc,<-wl];exact alloc_at _ _
 have ud:cg (∀W,aE (N+3) W2 W->W.heap[N]?=tf (tA m.cells 25 (0,0))/\W.heap[N+1]?=tf (tA #[Z U 0] 27 (0,0))/\W.heap[N+2]?=tf (tA (jg m Bn) 184 (0,0))):=λW hW=>
  ⟨(hW.block N (by omega)).trans ((ws.block N (by omega)).trans vh),(hW.block (N+1) (by omega)).trans ((ws.block (N+1) (by omega)).trans tP),(hW.block (N+2) (by omega)).trans A2⟩
 have vm:cg (aE N w W2):=A1.trans (ws.mono (by omega));have Ek:=zH vh;have HN:=zH hN;have yq:cg (∀(W:World)(z:aw)(u:cw)(bs:bp bj),W.heap[N+1]?=tf (tA #[u] 27 (0,0))->aE N w W->(∀b∈bs,N+2<=b)->∀w',Ext (·∈bs) (W.setCell ⟨N+1,0,th⟩ (Z U z)) w'->w'.cell? ⟨N+1,0,th⟩=tf (Z U z)/\aE N w w'):=by
  intro W z u bs G A h3 w' y;have h4:=gi W (N+1) 0 _ _ (Z U z) G;have h5:=y.heap h4 (λh=>by have:=h3 _ h;omega);refine⟨by rw[bt _ _ _ _ _ _ h5];rfl, ?_⟩;have h6:Ext (N<=·) w (W.setCell ⟨N+1,0,th⟩ (Z U z)):=(Ext.of_below A).trans (Ext.set1 _ _ _ _) (λj E=> .inl (by show N<=j;omega));exact(h6.trans y (λj E=> .inl (by show N<=j;have:=h3 _ E;omega))).below (by omega) (λk o=>o)
 have yr:=uc;simp only[jg,Bn,ks] at yr;have A3:=zH yr;clear A1 vh tP ws A2 uc yr
 (refine jo func53 rfl ?_
  simp only[ntmps53,List.size_toArray,eh,ks,Nat.reduceAdd,Nat.reduceSub,Array.replicate_succ,
   Array.replicate_zero,List.push_toArray,rb,eK,gh])
 go_wp2_with fail
 go_step3
 go_upto_region 2 with(fail)
 rw[A3.out];clear A3;obtain⟨yv,xf,C5⟩:=ud.out W2 (aq _ _);have c0:=zR yv 0 (tn m.sA m.ss.length m.sC);have c1:=zR yv 1 (tn m.fA m.fs.length m.fC);have c2:=zR xf 0 (Z U 0);have c3:=de _ _ 0 _ _ xf;have A4:=zH xf;clear yv xf C5 b0 b1 hst
 by_cases g1:30<m.ss.length
 ·have tG:cg (R=2):=by unfold cg;rw[HR.out,cH (.inl g1)]
  clear HR
  go_wp2_with fail
  refine⟨[],rfl,by simp,by simp,Z U 2,λw' y=> ?_⟩;obtain⟨G,A⟩:=yq.out W2 2 _ [] A4.out vm.out (by simp) w' y;exact⟨bY _ _ _ _ rfl G,by rw[tG.out],by first|exact A|(rw[HN.out];exact A)⟩
 by_cases g2:60<m.fs.length
 ·have tG:cg (R=2):=by unfold cg;rw[HR.out,cH (.inr g2)]
  clear HR
  go_wp2_with fail
  refine⟨[],rfl,by simp,by simp,Z U 2,λw' y=> ?_⟩;obtain⟨G,A⟩:=yq.out W2 2 _ [] A4.out vm.out (by simp) w' y;exact⟨bY _ _ _ _ rfl G,by rw[tG.out],by first|exact A|(rw[HN.out];exact A)⟩
 have vp:cg (R=if dh m=ti then 6
  else if (bO m).all m.known=tj then 5
  else if aQ (codeF m) m.fs≠0 then aQ (codeF m) m.fs
  else bN (decide (0<=m.fnIx dA)&&(match m.fs[(m.fnIx dA).toNat]? with
   |some g=>decide (g.c.par=0)&& !g.c.rp
   |none=>tj)) 9):=by unfold cg;rw[HR.out,bw (by omega)]
 clear HR;have yy:=zH (zg m W2 (HM.out.mo.below (by rw[HN.out];exact vm.out)) HM.out.sl HM.out.fl HM.out.fd);obtain⟨tw,A5⟩:=zE (dh m);rw[A5] at yy vp;have A6:cg (W2.heap[N]?=tf (tA m.cells 25 (0,0))):=(ud.out W2 (aq _ _)).1;clear A5;cases tw with
 |true=>
  have tG:cg (R=6):=by unfold cg;rw[vp.out,cH rfl]
  clear vp
  go_upto_region 4 with(fail)
  go_wp2_with (first
   |(refine cf rfl 25 _ rfl N rfl 25 m.cells (0,0) _ A6.out fh rfl (by kernel_rfl) ?_)
   |(go_at_call 94;refine yy.out.mono ?_;rintro e w3 ⟨rfl,ue⟩;have q1:=(ud.out w3 (ue.mono (by omega))).2.1;have c2:w3.cell? ⟨N+1,0,th⟩=tf (Z U 0):=(bt _ _ _ _ _ _ q1).trans rfl;have c3:=de _ _ 0 _ _ q1;have C6:=zH q1;have tR:=zH ue;clear ue q1))
  refine⟨[],rfl,by simp,by simp,Z U 6,λw' y=> ?_⟩;obtain⟨G,A⟩:=yq.out w3 6 _ [] C6.out (vm.out.trans (tR.out.mono (by omega))) (by simp) w' y;exact⟨bY _ _ _ _ rfl G,by rw[tG.out],by first|exact A|(rw[HN.out];exact A)⟩
 |false=>
  have yW:cg (R=if (bO m).all m.known=tj then 5
   else if aQ (codeF m) m.fs≠0 then aQ (codeF m) m.fs
   else bN (decide (0<=m.fnIx dA)&&(match m.fs[(m.fnIx dA).toNat]? with
    |some g=>decide (g.c.par=0)&& !g.c.rp
    |none=>tj)) 9):=by unfold cg;rw[vp.out];rfl
  clear vp
  go_upto_region 6 with(first
   |(refine cf rfl 25 _ rfl N rfl 25 m.cells (0,0) _ A6.out fh rfl (by kernel_rfl) ?_)
   |(go_at_call 94;refine yy.out.mono ?_;rintro e w3 ⟨rfl,ue⟩;have Bk:aE (N+3) W2 w3:=ue.mono (by omega);have tR:=zH Bk;clear ue Bk))
  have EV:=tR.out.size;have Bm:cg (w3.heap[N]?=tf (tA m.cells 25 (0,0))):=(ud.out w3 tR.out).1;have C7:cg (w3.heap[N+1]?=tf (tA #[Z U 0] 27 (0,0))):=(ud.out w3 tR.out).2.1;have Bs:cg (w3.heap[N+2]?=tf (tA (jg m Bn) 184 (0,0))):=(ud.out w3 tR.out).2.2;have Dd:cg (aE N w w3):=vm.out.trans (tR.out.mono (by omega));obtain⟨B,hB⟩:=zE w3.heap.size;obtain⟨W5,up⟩:=zE (w3.alloc (tA m.cells 25));have Dg:cg (fj am 95 #[tv m.cells] w3 λe w'=>e= tB (.func (.func 134) #[] #[tr (tf ⟨B,0,th⟩)])/\w'=W5):=by
   rw[<-hB,<-up];exact zk m w3
  have By:Ext (λ_=>lj) w3 W5:=by rw[<-up];exact(Ext.refl _ _).alloc _
  have E0:W5.heap.size=B+1:=by rw[<-up];simp[hB]
  have BE:W5.heap[B]?=tf (tA m.cells 25 (0,0)):=by rw[<-up,<-hB];exact alloc_at _ _
  have BT:=ik up hB;have xj:cg (aE N w W5):=Dd.out.trans (BT.mono (by omega));have zc:cg (Iter am 134 #[tr (tf ⟨B,0,th⟩)] vK (bO m) (mV N B) W5):=by
   have:=zi w W5 m B HM.out.mo (by rw[HN.out];exact xj.out) BE HM.out.fd HM.out.vl HM.out.sl HM.out.fl;rw[HN.out] at this;exact this
  have xl:=zH By;clear By BT BE up c0 c1 c2 c3
  go_upto_region 7 with(first
   |(refine cf rfl 25 _ rfl N rfl 25 m.cells (0,0) _ Bm.out fh rfl (by kernel_rfl) ?_)
   |(go_at_call 95;refine Dg.out.mono ?_;rintro e w6 ⟨rfl,BY⟩;rw[BY];clear BY))
  have Do:N+1<W5.heap.size:=by omega
  have E1:N+3<=B:=by omega
  have zd:cg (∀(W:World)(z:aw)(bs:bp bj),W.heap[N+1]?=tf (tA #[Z U z] 27 (0,0))->Ext (N<=·) w W->(∀b∈bs,N+2<=b)->∀w',Ext (·∈bs) W w'->w'.cell? ⟨N+1,0,th⟩=tf (Z U z)/\aE N w w'):=by
   intro W z bs G A h3 w' y;have h5:=y.heap G (λh=>by have:=h3 _ h;omega);refine⟨by rw[bt _ _ _ _ _ _ h5];rfl, ?_⟩;exact(A.trans y (λj E=> .inl (by show N<=j;have:=h3 _ E;omega))).below (by omega) (λk o=>o)
  obtain⟨XS,zj⟩:=zE (bO m);have zp:=zH zj;rw[zj] at zc;clear zj;refine gD (gf:=134) rfl func134 (by rfl) rfl zc.out (aq _ _) ?hRd (λ_=>rfl) (RI m N XS W5) (λc _ C W=>RX m N W5 c C W) (λur C W W' h y=>h.next Do y) ?hIC ?hIx (λk=>k=N+1) ?h0 ?hround ?hdone ?hstop
  case hRd=>
   rintro k (h|rfl)
   ·omega
   ·omega
  case hIC=>
   intro ur C W h k o;rcases h.own with e|⟨b,t,e,G,A,h3⟩
   ·rw[e] at o
    have o:k=N+1:=o;subst o;exact⟨(br.1 h.res).1,λh=>by rcases h with h|h<;>omega⟩
   ·rw[e] at o
    rcases o with o|o
    ·subst o
     exact⟨(br.1 h.res).1,λh=>by rcases h with h|h<;>omega⟩
    ·subst o
     exact⟨(br.1 h3).1,λh=>by rcases h with h|h<;>omega⟩
  case hIx=>
   intro c ur C W W' h y;exact⟨h.ret,y.heap h.res (λq=>by omega),h.ext.trans y (λj E=> .inr E.1),h.bad,h.own⟩
  case h0=>exact⟨xl.out.heap C7.out (λh=>h),Ext.refl _ _,by simp,.inl rfl⟩
  case hround=>
   rintro l ur ⟨xb,xs⟩ C W hl hI vq;unfold vK;rw[Ep];simp only[bh,bx,ca];have HI:=zH hI;have Ds:=zH vq;have zr:XS[ur.length]?=tf (xb,xs):=by
    obtain⟨t,ht⟩:=vq;rw[<-ht];simp
   have E2:=hI.ext.size;obtain⟨b,hb⟩:=zE W.heap.size;obtain⟨W6,xo⟩:=zE (W.alloc (tA #[tt xb,tm xs] 32));have E3:∀(c:dl cw),c.size=2->(dd ⟨b,0,th⟩ [tt xb,tm xs] 0).run am (W.alloc (tA c 32))= .ok () W6:=λc hc=>by
    rw[<-xo,<-hb];exact cr (P:=am) W 32 c #[tt xb,tm xs] (by show _=tf 2;kernel_rfl) hc (by simp[cn])
   have B4:W6.heap[b]?=tf (tA #[tt xb,tm xs] 32 (0,0)):=by rw[<-xo,<-hb];exact alloc_at _ _
   have xp:Ext (λ_=>lj) W W6:=by rw[<-xo];exact(Ext.refl _ _).alloc _
   have DA:cg (RI m N XS W5 ur (λk=>k=N+1\/k=b) W6):=by
    have h:=HI.out;exact⟨xp.heap h.res (λh=>h),h.ext.trans xp (λ_ h=>h.elim),h.kn,.inr ⟨b,_,rfl,zr,by omega,B4⟩⟩
   have DB:cg (Ext C W W6):=xp.mono (λ_ h=>h.elim);have DE:=zH zr;have E4:=zH xo;clear hI vq zr B4 xp;obtain⟨F,hF⟩:∃F,F=gx.inRound l:=⟨_,rfl⟩
   have B5:cg (∀(n f:bj)(args:dl cw)(w:World)(R:Ending->World->Prop),fj am f args w R->CallsIn F n am f args w R):=by
    intro n f args w R h;rw[hF];exact CallsIn.inRound l (callsIn_wide.2 h)
   have E6:F.round=tf l:=by rw[hF];rfl
   have E7:∀f,F.fn f:=λf=>by rw[hF];trivial
   have Fc:F.depth=th:=by rw[hF];rfl
   rw[<-hF];clear hF
   gi_wp2
   refine⟨λk=>k=N+1\/k=b, ?_,DA.out,DB.out, ?_⟩
   ·rintro k (rfl|rfl)
    ·exact .inl HI.out.res_own
    ·exact .inr (by omega)
   intro W₂ tS DG;have tP:W₂.heap[b]?=tf (tA #[tt xb,tm xs] 32 (0,0)):=by
    rcases tS.own with e|⟨b',t',e,G,A,h3⟩
    ·have q:=congrFun e b
     simp at q;omega
    ·have q:=congrFun e b
     simp at q;rcases q with q|q
     ·omega
     ·subst q
      rw[DE.out] at G;obtain rfl:=cy G;exact h3
   have B6:W₂.heap[N+2]?=tf (tA (jg m Bn) 184 (0,0)):=tS.ext.heap (xl.out.heap Bs.out (λh=>h)) (by omega);have B7:aE N W5 W₂:=tS.ext.below (by omega) (λk o=>by omega);have DH:cg (aE N w W₂):=xj.out.trans B7;have DM:=de _ _ 0 _ _ tS.res;have DO:W₂.cell? ⟨N+1,0,th⟩=tf (Z U 0):=(bt _ _ _ _ _ _ tS.res).trans rfl;have t0:W₂.cell? ⟨b,0,th⟩=tf (tt xb):=(bt _ _ _ _ _ _ tP).trans rfl;have t1:W₂.cell? ⟨b,1,th⟩=tf (tm xs):=(bt _ _ _ _ _ _ tP).trans rfl;obtain⟨y0,y1,y2,y3,y4,y5,y6,y7,y8,y9⟩:=jk.of B6;simp only[Bn,ks] at y2 y3 y4 y5 y6 y7 y8 y9;obtain⟨d,hd⟩:=zE (m.known (xb,xs));have B8:cg (zP 96 #[tv (jg m Bn),tv #[tt xb,tm xs]] W₂ (tt d)):=by
    rw[<-hd];exact yY m Bn xb xs W₂ (HM.out.mo.below (by rw[HN.out];exact DH.out))
   have HD:=zH hd;have vr:=zH tS;have Fi:=(br.1 tP).1;clear tP B6 B7 tS hd DG;cases d with
   |true=>
    gi_wp2_with (gi_at_call 96;refine(B5.out _ _ _ _ _ B8.out).mono ?_;rintro e K ⟨rfl,tE⟩;have tU:=zH tE;clear tE)
    have h7:Ext (λ_=>lj) W₂ K:=Ext.of_below_size tU.out;refine⟨λk=>k=N+1,λk o=> .inl (.inl o),⟨h7.heap vr.out.res (λh=>h),vr.out.ext.trans h7 (λ_ h=>h.elim),λt ht=> ?_,.inl rfl⟩,h7.mono (λ_ h=>h.elim)⟩;rcases dg.1 ht with h|h
    ·exact vr.out.kn t h
    ·simp at h;subst h;exact HD.out
   |false=>
    gi_wp2_with (gi_at_call 96;refine(B5.out _ _ _ _ _ B8.out).mono ?_;rintro e K ⟨rfl,tE⟩;have z7:K.cell? ⟨N+1,0,th⟩=tf (Z U 0):=(tE.cell (p:=⟨N+1,0,th⟩) (by show N+1<_;omega)).trans DO;have f7:K.frozen? ⟨N+1,0,th⟩=tj:=(tE.frozen (p:=⟨N+1,0,th⟩) (by show N+1<_;omega)).trans DM;have tU:=zH tE;clear tE)
    have h7:Ext (λ_=>lj) W₂ K:=Ext.of_below_size tU.out;have h8:Ext (·=N+1) K (K.setCell ⟨N+1,0,th⟩ (Z U 5)):=Ext.set1 _ _ _ _;refine⟨λk=>k=N+1,λk o=> .inl (.inl o),⟨rfl, ?_,(vr.out.ext.trans h7 (λ_ h=>h.elim)).trans h8 (λj E=> .inl E), ?_,rfl⟩,(h7.mono (λ_ h=>h.elim)).trans h8 (λj E=> .inl (.inl E))⟩
    ·have:=gi K (N+1) 0 _ _ (Z U 5) (h7.heap vr.out.res (λh=>h))
     simpa using this
    ·rw[zp.out,lR]
     exact⟨(xb,xs),Ds.out.subset (by simp),by rw[HD.out];simp⟩
  case hstop=>
   intro D c ur C W hD zs vq DP uv;obtain⟨rfl,tM,B9,Cd,DQ⟩:=DP;have tG:cg (R=5):=by unfold cg;rw[yW.out,cH Cd]
   have xr:=zH uv;have tW:cg (Ext (N<=·) w W):=(Ext.of_below xj.out).trans (B9.mono (M':=(N<=·)) (λk o=>by show N<=k;omega)) (λj E=> .inl E);have zv:=zH tM;clear tM B9 Cd DQ uv vq
   go_wp2_with fail
   refine⟨[D],rfl,by simp,by intro b hb;simp at hb;subst hb;exact xr.out,Z U 5,λw' y=> ?_⟩;obtain⟨G,A⟩:=zd.out W 5 [D] zv.out tW.out (by simp;omega) w' y;exact⟨bY _ _ _ _ rfl G,by rw[tG.out],by first|exact A|(rw[HN.out];exact A)⟩
  case hdone=>
   intro D C W hD zs hI uv;have Cl:cg (∀t∈bO m,m.known t=ti):=by rw[zp.out];exact hI.kn
   have xt:cg (R=if aQ (codeF m) m.fs≠0 then aQ (codeF m) m.fs
    else bN (decide (0<=m.fnIx dA)&&(match m.fs[(m.fnIx dA).toNat]? with
     |some g=>decide (g.c.par=0)&& !g.c.rp
     |none=>tj)) 9):=by
    unfold cg;rw[yW.out,bw];rw[gn.2 Cl.out];decide
   have xr:=zH uv;have tW:cg (Ext (N<=·) w W):=(Ext.of_below xj.out).trans (hI.ext.mono (M':=(N<=·)) (λk o=>by show N<=k;omega)) (λj E=> .inl E);have zv:=zH hI.res;have An:cg (W.heap[N]?=tf (tA m.cells 25 (0,0))):=hI.ext.heap (xl.out.heap Bm.out (λh=>h)) (by omega);have DS:cg (W.heap[N+2]?=tf (tA (jg m Bn) 184 (0,0))):=hI.ext.heap (xl.out.heap Bs.out (λh=>h)) (by omega);have Fk:N+3<=W.heap.size:=by have:=hI.ext.size;omega
   have Fl:cg (aE N w W):=tW.out.below (by omega) (λk o=>o);have Fm:cg (D<W.heap.size):=(br.1 uv).1;have m0:W.cell? ⟨N,0,th⟩=tf (tn m.sA m.ss.length m.sC):=(bt _ _ _ _ _ _ An.out).trans rfl;have m1:W.cell? ⟨N,1,th⟩=tf (tn m.fA m.fs.length m.fC):=(bt _ _ _ _ _ _ An.out).trans rfl;have Fo:=zH zs;clear hI uv zs yW zc zp
   go_wp2_with fail
   go_step3
   go_wp2_with fail
   go_loopw [34] (λc wr=>∃(j:bj) (g:Fn),j<=m.fs.length/\c= Z U (j:aw)/\(∀f∈m.fs.take j,codeF m f=0)/\Ext (λk=>k=N+1\/k=N+2) W wr/\wr.heap[N+1]?=tf (tA #[Z U 0] 27 (0,0))/\wr.heap[N+2]?=tf (tA (jg m g) 184 (0,0))) (λc _=>m.fs.length-(dp c).toNat)
   case atStart=>exact⟨0,Bn,cM _,rfl,by simp,Ext.refl _ _,zv.out,DS.out⟩
   case round=>
    clear m0 m1;obtain⟨j,g,E,rfl,hz,y,tM,vt⟩:=hrel;have HZ:=zH hz;have HX:=zH y;have D0:=zH tM;have Fr:=zH vt;have Ft:=y.size;have At:cg (aE N w wr):=(tW.out.trans (y.mono (M':=(N<=·)) (λk o=>by show N<=k;omega)) (λj E=> .inl E)).below (by omega) (λk o=>o)
    by_cases Ax:j<m.fs.length
    ·obtain⟨f,hf⟩:∃f,m.fs[j]?=tf f:=⟨_,ap Ax⟩
     have xF:=ci hf;obtain⟨fb,ua,vu,AD,ux⟩:=HM.out.mo.frow (by intro e;rw[e] at Ax;simp at Ax);have xT:fb<N:=by omega
     have Cp:cg (∀k u,f.cells.toList[k]?=tf u->wr.cell? ((⟨fb,ua+j*8,th⟩:fg).add k)=tf u):=λk u hu=>by
      rw[cU,At.out.cell (p:=⟨fb,_,th⟩) xT];exact ux j f hf k u hu
     obtain⟨P,hP⟩:=zE wr.heap.size;obtain⟨W3,vx⟩:=zE (wr.alloc (tA f.cells 38));have FA:∀(c:dl cw),c.size=8->(dd ⟨P,0,th⟩ f.cells.toList 0).run am (wr.alloc (tA c 38))= .ok () W3:=λc hc=>by
      rw[<-vx,<-hP];exact cr (P:=am) wr 38 c f.cells (by show _=tf 8;kernel_rfl) hc (fu f)
     have ya:Ext (λ_=>lj) wr W3:=by rw[<-vx];exact(Ext.refl _ _).alloc _
     have CA:cg (W3.heap[P]?=tf (tA f.cells 38 (0,0))):=by unfold cg;rw[<-vx,<-hP];exact alloc_at _ _
     have yb:=ya.heap vt (λh=>h);have FF:W3.heap.size=P+1:=by rw[<-vx];simp[hP]
     obtain⟨W4,yd⟩:=zE (W3.setCells (N+2) 2 f.cells.toList);have FG:(dd ⟨N+2,2,th⟩ f.cells.toList 0).run am W3= .ok () W4:=by
      rw[<-yd];refine run_storeCells_cells (P:=am) (N+2) 2 f.cells.toList 0 W3 (λk o=> ?_) (λk o=>de _ _ _ _ _ yb) (λv hv=> ?_)
      ·rw[bt _ _ _ _ _ _ yb]
       have:k<8:=o;rw[n8 (by show 2+0+k<10;omega)];rfl
      ·have:=fu f
       rw[<-j9,gn] at this;exact this v hv
     have CC:W4.heap[N+2]?=tf (tA (jg m f) 184 (0,0)):=by
      rw[<-yd,<-Bo m g f];exact og _ _ _ _ yb
     have AE:Ext (·=N+2) W3 W4:=by rw[<-yd];exact(World.keptBut_ext (N+2) _ _ _)
     have CD:W4.heap[N+1]?=tf (tA #[Z U 0] 27 (0,0)):=AE.heap (ya.heap tM (λh=>h)) (by omega);have ye:cg (Ext (λk=>k=N+1\/k=N+2) W W4):=(HX.out.trans ya (λ_ h=>h.elim)).trans AE (λk o=> .inl (.inr o));have D1:cg (aE N w W4):=(tW.out.trans (ye.out.mono (M':=(N<=·)) (λk o=>by show N<=k;omega)) (λj E=> .inl E)).below (by omega) (λk o=>o);have AF:=zH CC;have CH:=zH CD;have F0:=ye.out.size;obtain⟨z,AH⟩:=zE (codeF m f);have CM:cg (zP 97 #[tv (jg m f)] W4 (Z U z)):=by
      rw[<-AH];have ub:=HM.out.mo.below (by rw[HN.out];exact D1.out);exact Bh m f W4 ⟨ub,ub.fin f xF,HM.out.al f xF,λv hv=>Cl.out _ (by
       obtain⟨h0,G⟩:=dW.1 hv;obtain⟨k,rfl⟩:∃k:bj,v=(k:aw):=⟨v.toNat,by omega⟩
       obtain⟨x,y⟩:∃x,f.vs[k]?=tf x:=⟨_,ap (by omega)⟩
       have e:ax f.vs (k:aw)=x.ty:=by unfold ax;rw[ep,y]
       rw[e];unfold bO;exact dg.2 (.inr (iv.2 ⟨f,xF,mS _ (fL.2 ⟨x,ci y,rfl⟩)⟩)))⟩
     have AI:=zH AH;have HF:=zH hf;have F1:(j:aw)<(m.fs.length:aw):=by omega
     rw[vu];clear hz y tM vt hf xF AD ux vx ya yb yd CC AE CD AH
     by_cases yi:z=0
     ·subst yi
      go_wp2_with (first
       |(refine ay rfl 38 _ rfl ⟨fb,ua+j*8,th⟩ rfl f.cells _ Cp.out cJ rfl (by kernel_rfl) ?_)
       |(refine cf rfl 38 _ rfl P rfl 38 f.cells (0,0) _ CA.out cJ rfl (by kernel_rfl) ?_)
       |(refine cf rfl 184 _ rfl (N+2) rfl 184 (jg m f) (0,0) _ AF.out cG rfl (by kernel_rfl) ?_)
       |(go_at_call 97;refine CM.out.mono ?_;rintro e K ⟨rfl,tE⟩;have q7:=kC tE CH.out;have z7:K.cell? ⟨N+1,0,th⟩=tf (Z U 0):=(bt _ _ _ _ _ _ q7).trans rfl;have f7:=de _ _ 0 _ _ q7;have n7:=(br.1 q7).1;have AK:=zH q7;have tU:=zH tE;clear tE q7))
      have vc:Ext (·=N+1) K (K.setCell ⟨N+1,0,th⟩ (Z U 0)):=Ext.set1 _ _ _ _;have yk:Ext (λ_=>lj) W4 K:=Ext.of_below_size tU.out;refine⟨⟨j+1,f,by omega,by go_num,dw (p:=λf=>codeF m f=0) HZ.out HF.out AI.out,(ye.out.trans yk (λ_ h=>h.elim)).trans vc (λk o=> .inl (.inl o)), ?_,vc.heap (yk.heap AF.out (λh=>h)) (by omega)⟩,by simp[dp];omega⟩;have:=gi K (N+1) 0 _ _ (Z U 0) AK.out;simpa using this
     ·have tG:cg (R=z):=by
       unfold cg;have e:=jP (f:=codeF m) HZ.out HF.out (by rw[AI.out];exact yi);rw[xt.out,e,AI.out,cH yi]
      have Ge:(z==0)=tj:=by rw[cN];exact yi
      go_wp2_with (first
       |(refine ay rfl 38 _ rfl ⟨fb,ua+j*8,th⟩ rfl f.cells _ Cp.out cJ rfl (by kernel_rfl) ?_)
       |(refine cf rfl 38 _ rfl P rfl 38 f.cells (0,0) _ CA.out cJ rfl (by kernel_rfl) ?_)
       |(refine cf rfl 184 _ rfl (N+2) rfl 184 (jg m f) (0,0) _ AF.out cG rfl (by kernel_rfl) ?_)
       |(go_at_call 97;refine CM.out.mono ?_;rintro e K ⟨rfl,tE⟩;have q7:=kC tE CH.out;have z7:K.cell? ⟨N+1,0,th⟩=tf (Z U 0):=(bt _ _ _ _ _ _ q7).trans rfl;have f7:=de _ _ 0 _ _ q7;have n7:=(br.1 q7).1;have AK:=zH q7;have tU:=zH tE;clear tE q7))
      have vc:Ext (·=N+1) K ((K.setCell ⟨N+1,0,th⟩ (Z U z)).setCell ⟨N+1,0,th⟩ (Z U z)):=(Ext.set1 _ _ _ _).trans (Ext.set1 _ _ _ _) (λj E=> .inl E);have yk:Ext (λ_=>lj) W4 K:=Ext.of_below_size tU.out;have vy:Ext (λk=>k=N+1\/k=N+2) W ((K.setCell ⟨N+1,0,th⟩ (Z U z)).setCell ⟨N+1,0,th⟩ (Z U z)):=(ye.out.trans yk (λ_ h=>h.elim)).trans vc (λk o=> .inl (.inl o));have AM:((K.setCell ⟨N+1,0,th⟩ (Z U z)).setCell ⟨N+1,0,th⟩ (Z U z)).heap[N+1]?=tf (tA #[Z U z] 27 (0,0)):=by
       have q1:=gi K (N+1) 0 _ _ (Z U z) AK.out;have q2:=gi _ (N+1) 0 _ _ (Z U z) q1;simpa using q2
      refine⟨[D],rfl,by simp,by intro b hb;simp at hb;subst hb;exact vy.heap xr.out (by omega),Z U z,λw' y=> ?_⟩;obtain⟨G,A⟩:=zd.out _ z [D] AM (tW.out.trans (vy.mono (M':=(N<=·)) (λk o=>by show N<=k;omega)) (λj E=> .inl E)) (by simp;omega) w' y;exact⟨bY _ _ _ _ rfl G,by rw[tG.out],by first|exact A|(rw[HN.out];exact A)⟩
    ·have D3:j=m.fs.length:=by omega
     subst D3;rw[cL] at hz;have we:cg (R=bN (decide (0<=m.fnIx dA)&&(match m.fs[(m.fnIx dA).toNat]? with
      |some g=>decide (g.c.par=0)&& !g.c.rp
      |none=>tj)) 9):=by
      unfold cg;rw[xt.out,gV hz,bw (by simp)]
     have z0:wr.cell? ⟨N+1,0,th⟩=tf (Z U 0):=(bt _ _ _ _ _ _ tM).trans rfl;have f0:=de _ _ 0 _ _ tM;have yp:wr.heap[N]?=tf (tA m.cells 25 (0,0)):=y.heap An.out (by omega);have m0:wr.cell? ⟨N,0,th⟩=tf (tn m.sA m.ss.length m.sC):=(bt _ _ _ _ _ _ yp).trans rfl;have m1:wr.cell? ⟨N,1,th⟩=tf (tn m.fA m.fs.length m.fC):=(bt _ _ _ _ _ _ yp).trans rfl;have ub:=HM.out.mo.below (by rw[HN.out];exact At.out);obtain⟨kx,vd⟩:=zE (m.fnIx dA);rw[vd] at we;have wg:cg (zP 98 #[tv m.cells,tm ⟨#[109,97,105,110]⟩] wr (Z U kx)):=by
      rw[<-vd];exact yV m dA wr ub.nf ub.frow
     have AN:cg (∀(J:World)(z:aw),aE wr.heap.size wr J->(J.setCell ⟨N+1,0,th⟩ (Z U z)).heap[D]?=tf (.deferred (tf []))/\∀w',Ext (·∈[D]) (J.setCell ⟨N+1,0,th⟩ (Z U z)) w'->w'.cell? ⟨N+1,0,th⟩=tf (Z U z)/\aE N w w'):=by
      intro J z tD;have CN:Ext (λ_=>lj) wr J:=Ext.of_below_size tD;have vc:Ext (·=N+1) J (J.setCell ⟨N+1,0,th⟩ (Z U z)):=Ext.set1 _ _ _ _;have vy:Ext (λk=>k=N+1\/k=N+2) W (J.setCell ⟨N+1,0,th⟩ (Z U z)):=(HX.out.trans CN (λ_ h=>h.elim)).trans vc (λk o=> .inl (.inl o));have AM:=gi J (N+1) 0 _ _ (Z U z) (CN.heap D0.out (λh=>h));refine⟨vy.heap xr.out (by omega),λw' y=> ?_⟩;exact zd.out _ z [D] (by simpa using AM) (tW.out.trans (vy.mono (M':=(N<=·)) (λk o=>by show N<=k;omega)) (λj E=> .inl E)) (by simp;omega) w' y
     have Gk:=zH tM;have vf:N+1<wr.heap.size:=by omega
     rcases mU (λf:Fn=>f.c.nm==dA) m.fs with e|⟨k,f,e,hf,_⟩
     ·have AS:kx= -1:=by rw[<-vd];exact e
      subst AS;have tG:cg (R=9):=by unfold cg;rw[we.out];rfl
      clear hz y tM vt vd yp ub xt we e
      go_wp2_with (first
       |(go_at_call 98;refine wg.out.mono ?_;rintro e J ⟨rfl,tD⟩;have z8:J.cell? ⟨N+1,0,th⟩=tf (Z U 0):=(tD.cell (p:=⟨N+1,0,th⟩) vf).trans z0;have f8:J.frozen? ⟨N+1,0,th⟩=tj:=(tD.frozen (p:=⟨N+1,0,th⟩) vf).trans f0;have wj:=zH tD;clear tD)
       |(go_at_call 99;refine(aB _ _ _).mono ?_;rintro e w9 ⟨rfl,rfl⟩))
      obtain⟨h3,h4⟩:=AN.out J 9 wj.out;refine⟨[D],rfl,by simp,by intro b hb;simp at hb;subst hb;exact h3,Z U 9,λw' y=> ?_⟩;obtain⟨G,A⟩:=h4 w' y;exact⟨bY _ _ _ _ rfl G,by rw[tG.out],by first|exact A|(rw[HN.out];exact A)⟩
     ·have AS:kx=(k:aw):=by rw[<-vd];exact e
      subst AS;have CT:=(bo.1 hf).1;have GB:(k:aw)<(m.fs.length:aw):=by omega
      have tG:cg (R=bN (decide (f.c.par=0)&& !f.c.rp) 9):=by
       unfold cg;rw[we.out,ep,hf,cR (by omega)];rfl
      obtain⟨fb,ua,vu,AD,ux⟩:=HM.out.mo.frow (by intro e;rw[e] at CT;simp at CT);have xT:fb<N:=by omega
      have AT:cg (∀W8,aE wr.heap.size wr W8->W8.cell? ⟨fb,ua+k*8+1,th⟩=tf (Z U f.c.par)/\W8.cell? ⟨fb,ua+k*8+3,th⟩=tf (tt f.c.rp)/\W8.cell? ⟨N,1,th⟩=tf (tn (tf ⟨fb,ua,th⟩) m.fs.length m.fC)/\N<W8.heap.size/\fb<W8.heap.size):=by
       intro W8 h8;have C4:aE N w W8:=At.out.trans (h8.mono (by omega));have GC:=h8.size;refine⟨?_, ?_, ?_,by omega,by omega⟩
       ·rw[C4.cell (p:=⟨fb,_,th⟩) xT];exact ux k f hf 1 _ rfl
       ·rw[C4.cell (p:=⟨fb,_,th⟩) xT];exact ux k f hf 3 _ rfl
       ·rw[h8.cell (p:=⟨N,1,th⟩) (by show N<_;omega),<-vu];exact m1
      simp only[Mo.cells] at wg;rw[vu] at wg m1;clear hz y tM vt vd yp ub xt we e AD ux hf vu
      by_cases hp:f.c.par=0
      ·rw[hp] at AT
       have AW:cg (R=bN (!f.c.rp) 9):=by unfold cg;rw[tG.out,hp];rfl
       go_wp2_with (first
        |(go_at_call 98;refine wg.out.mono ?_;rintro e J ⟨rfl,tD⟩;have z8:J.cell? ⟨N+1,0,th⟩=tf (Z U 0):=(tD.cell (p:=⟨N+1,0,th⟩) vf).trans z0;have f8:J.frozen? ⟨N+1,0,th⟩=tj:=(tD.frozen (p:=⟨N+1,0,th⟩) vf).trans f0;obtain⟨u1,u2,u3,u4,u5⟩:=AT.out J tD;have wj:=zH tD;clear tD)
        |(go_at_call 99;refine(aB _ _ _).mono ?_;rintro e w9 ⟨rfl,rfl⟩))
       obtain⟨h3,h4⟩:=AN.out J (bN (!f.c.rp) 9) wj.out;refine⟨[D],rfl,by simp,by intro b hb;simp at hb;subst hb;exact h3,Z U (bN (!f.c.rp) 9),λw' y=> ?_⟩;obtain⟨G,A⟩:=h4 w' y;exact⟨bY _ _ _ _ rfl G,by rw[AW.out],by first|exact A|(rw[HN.out];exact A)⟩
      ·have AW:cg (R=9):=by unfold cg;rw[tG.out,cm hp];rfl
       have GE:(f.c.par==0)=tj:=by rw[cN];exact hp
       go_wp2_with (first
        |(go_at_call 98;refine wg.out.mono ?_;rintro e J ⟨rfl,tD⟩;have z8:J.cell? ⟨N+1,0,th⟩=tf (Z U 0):=(tD.cell (p:=⟨N+1,0,th⟩) vf).trans z0;have f8:J.frozen? ⟨N+1,0,th⟩=tj:=(tD.frozen (p:=⟨N+1,0,th⟩) vf).trans f0;obtain⟨u1,u2,u3,u4,u5⟩:=AT.out J tD;have wj:=zH tD;clear tD)
        |(go_at_call 99;refine(aB _ _ _).mono ?_;rintro e w9 ⟨rfl,rfl⟩))
       obtain⟨h3,h4⟩:=AN.out J 9 wj.out;refine⟨[D],rfl,by simp,by intro b hb;simp at hb;subst hb;exact h3,Z U 9,λw' y=> ?_⟩;obtain⟨G,A⟩:=h4 w' y;exact⟨bY _ _ _ _ rfl G,by rw[AW.out],by first|exact A|(rw[HN.out];exact A)⟩
end
end Go.Proofs.YtjomgckjhcfbgaaGreat
