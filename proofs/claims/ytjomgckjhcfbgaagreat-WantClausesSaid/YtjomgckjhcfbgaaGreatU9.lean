/- Walks. -/
import Derived.Laws.IdiomCopy
import Derived.Sort.LoopGhostIn
import Derived.Sort.QuietIn
import Derived.Test.YtjomgckjhcfbgaaGreatU8
set_option maxRecDepth 100000
set_option maxHeartbeats 64000000
set_option linter.all false
namespace Go.Proofs.YtjomgckjhcfbgaaGreat
open Go.RowKit
open Go.Proofs.Tryz renaming prog→am,underlying184→cM,underlying38→cQ,underlying25→fx,underlying90→oB
open _root_.List renaming getElem?_eq_getElem→ap,getElem?_eq_some_iff→bl,setIfInBounds_toArray→bp,mem_of_getElem?→cd,set_cons_zero→cn,set_cons_succ→co,take_length→cR,mem_append→cX,map_append→dp,append_nil→ej,append_assoc→eq,length_cons→eV,nil_append→fN,flatMap_cons→fW,mem_map→gi,all_eq_true→gA,mem_cons_of_mem→ie,cons_append→ij,drop_eq_getElem_cons→jn,any_eq_true→kh,mem_flatMap→kq,any_eq_false→lx,map_cons→mA,length_nil→mC,all_eq_false→m6
open Go.RowKit.Below renaming refl→aq,mono→qe
open _root_ renaming Int→aw,Nat→bh,List→bj,ByteArray→bm,if_neg→bx,decide_eq_false→cv,Option→cG,if_pos→cI,beq_eq_false_iff_ne→cT,decide_eq_true→cV,Array→eA,absurd→fL,False→me
open Go.RowKit renaming Below→aE,Hid→cj,intOf→de
open _root_.Array renaming getElem?_eq_some_iff→br,all_toList→ly,getElem?_eq_getElem→mx
open Go renaming cell_of_row→bw,wpList_load_row→cm,run_storeCells_new→cx,Value→cA,storeCells→dt,frozen_of_row→ei,bodyPost_ret→er,maxLen→eC,Addr→fS,Calls→ge,heap_setCell_same→gj,TypeId→gt,results_none→li,wpListIn_nil→pc,wpIn_wide→rv,results→th,bodyPost_end→tA
open _root_.Nat renaming le_refl→cg,zero_le→cN,le_trans→eJ
open Go.Value renaming oneCell'→ct,string→tS,slice→tU,pointer→tW,bool→ua,agg→ub,int→Z
open _root_.Option.some renaming inj→cE
open Go.Addr renaming add_lit→cY
open Go.Exit renaming inBlock→dk,noGoto_ret→ml
open Go.Act renaming put→eh
open _root_.Int renaming toNat_natCast→eW
open Go.Fence renaming wide→i7
open _root_.Option renaming some→tG,none→tM
open _root_.Bool renaming true→tP,false→tR
open Go.Obj renaming cells→uc
open Go.Ending renaming returned→ud
open Go.IntKind renaming i64→U
open Tryz
theorem oW (s:St):(s.cells.all λx=>x.oneCell')=tP:=by
 rw[<-ly];simp[St.cells,Fb.cells,ct]
theorem oZ (s:Fd):(s.cells.all λx=>x.oneCell')=tP:=by
 rw[<-ly];simp[Fd.cells,ct]
theorem gm (f:Fn):(f.cells.all λx=>x.oneCell')=tP:=by
 rw[<-ly];simp[Fn.cells,dx.cells,ct]
theorem jU {α:Type}{l:bj α}{j:bh}{x:α}(f:α->bm)(h:l[j]?=tG x):(l.take (j+1)).map f=(l.take j).map f++[f x]:=by
 rw[aH h,dp];rfl
theorem gM.grown {w w':World}{B base:bh}{v:cA}{xs:bj bm}(d:gM w base v xs)(e:w.grownBy w' v.ownBlock)(f:B<=base)(g:B<=w.heap.size):aE B w w':=
 (aq B w).grown e g (λk h=>eJ f (d.lt k h).1)
theorem Aq (m:Mo)(w:World)(h:m.inn w)(hs:m.ss.length<=90000)(hf:m.fs.length<=90000)(xf:∀s∈m.ss,s.fs.length<=90000):
  zP 94 #[ub m.cells] w (ua (dJ m)):=by
 have HM:=zH h;have B5:=zH xf;obtain⟨R,hR⟩:=zE (dJ m);have HR:cj (R=((m.ss.any λs=>decide (¬(s.fs.map Fd.nm).Nodup))||decide (¬(m.ss.map λs=>s.s.nm).Nodup)||decide (¬(m.fs.map λf=>f.c.nm).Nodup))):=hR.symm;rw[hR];clear h xf hR;obtain⟨N,hN⟩:=zE w.heap.size;obtain⟨W1,xT⟩:=zE (w.alloc (uc m.cells 25));have AN:=iR xT hN;have AS:W1.heap.size=N+1:=by rw[<-xT];simp[hN]
 have AT:W1.heap[N]?=tG (uc m.cells 25 (0,0)):=by rw[<-xT,<-hN];exact alloc_at _ _
 have HK:cj (∀W,aE (N+1) W1 W->W.cell? ⟨N,0,tM⟩=tG (tU m.sA m.ss.length m.sC)/\W.cell? ⟨N,1,tM⟩=tG (tU m.fA m.fs.length m.fC)/\N<W.heap.size):=λW hW=>by
  have q:=(hW.block N (by omega)).trans AT;exact⟨by rw[bw _ _ _ _ _ _ q];rfl,by rw[bw _ _ _ _ _ _ q];rfl,(br.1 q).1⟩
 have yb:=zH AN;have HN:=zH hN;obtain⟨k0,k1,C6⟩:=HK.out W1 (aq _ _);clear AN AT;go_enter func94,ntmps94
 go_wp2_with fail
 go_loopw [3,15] (λv c wr=>∃(j:bh) (ao:cG fS) (cap:bh),j<=m.ss.length/\c= Z U (j:aw)/\v= tU ao ((m.ss.take j).map λs=>s.s.nm).length cap/\gM wr (N+1) v ((m.ss.take j).map λs=>s.s.nm)/\(∀s∈m.ss.take j,(s.fs.map Fd.nm).Nodup)/\aE (N+1) W1 wr) (λ_ c _=>m.ss.length-(de c).toNat)
 case atStart=>exact⟨0,tM,0,cN _,rfl,rfl,gM.nil _ _,by simp,aq _ _⟩
 case round=>
  clear k0 k1;obtain⟨j,ao,cap,hj,rfl,rfl,yd,ye,hb⟩:=hrel;have HB:=zH hb;have vq:=zH yd;have xj:=zH ye;obtain⟨k0,k1,C7⟩:=HK.out wr hb;have B6:N+1<=wr.heap.size:=by omega
  have yi:cj (aE N w wr):=yb.out.trans (hb.mono (by omega))
  by_cases yk:j<m.ss.length
  ·obtain⟨s,xo⟩:∃s,m.ss[j]?=tG s:=⟨_,ap yk⟩
   have vt:=cd xo;have xp:=HM.out.sin s vt;obtain⟨b0,AW,hA,B7,A0⟩:=HM.out.srow (by intro e;rw[e] at yk;simp at yk);have B8:b0<N:=by omega
   have B9:cj (∀k u,s.cells.toList[k]?=tG u->wr.cell? ((⟨b0,AW+j*4,tM⟩:fS).add k)=tG u):=λk u hu=>by
    rw[cY,yi.out.cell (p:=⟨b0,_,tM⟩) B8];exact A0 j s xo k u hu
   obtain⟨M,hM⟩:=zE wr.heap.size;obtain⟨E,vr⟩:=zE (wr.alloc (uc s.cells 90));have hst:∀(c:eA cA),c.size=4->(dt ⟨M,0,tM⟩ s.cells.toList 0).run am (wr.alloc (uc c 90))= .ok () E:=λc hc=>by
    rw[<-vr,<-hM];exact cx (P:=am) wr 90 c s.cells (by show _=tG 4;kernel_rfl) hc (oW s)
   have A1:E.heap[M]?=tG (uc s.cells 90 (0,0)):=by rw[<-vr,<-hM];exact alloc_at _ _
   have Dd:E.heap.size=M+1:=by rw[<-vr];simp[hM]
   have yp:cj (aE (N+1) W1 E):=by rw[<-vr];exact HB.out.alloc B6 _
   have A2:cj (gM E (N+1) (tU ao ((m.ss.take j).map λs=>s.s.nm).length cap) ((m.ss.take j).map λs=>s.s.nm)):=by rw[<-vr];exact vq.out.below ((aq _ _).alloc (cg _) _)
   have yq:cj (∀W,aE (M+1) E W->W.cell? ⟨M,0,tM⟩=tG (tS s.s.nm)/\W.cell? ⟨M,1,tM⟩=tG (tU s.s.fA s.fs.length s.s.fC)/\M<W.heap.size):=λW hW=>by
    have q:=(hW.block M (by omega)).trans A1;exact⟨by rw[bw _ _ _ _ _ _ q];rfl,by rw[bw _ _ _ _ _ _ q,<-xp.nf];rfl,(br.1 q).1⟩
   obtain⟨m0,m1,Dg⟩:=yq.out E (aq _ _);have Cd:cj (aJ Fd.cells 5 w w.heap.size s.s.fA s.fs):=xp.row;have Cl:cj (∀f∈s.fs,f.nm.size<=eC):=xp.fnm;have xf:=B5.out s vt;have yr:=zH xo;have Do:(j:aw)<(m.ss.length:aw):=by omega
   obtain⟨g,K⟩:=zE ((m.ss.take j).map λs=>s.s.nm);have yv:g.length<=90000:=by rw[<-K];simp;omega
   rw[K] at A2⊢;have Cp:=zH K;rw[hA] at k0⊢;clear hb yd ye vq vt xp B7 A0 xo A1 vr K
   go_upto_region 7 with(refine au rfl 90 _ rfl ⟨b0,AW+j*4,tM⟩ rfl s.cells _ B9.out oB rfl (by kernel_rfl) ?_)
   go_loopw [7,22] (λv c wq=>∃(q:bh) (ao:cG fS) (cap:bh),q<=s.fs.length/\c= Z U (q:aw)/\v= tU ao ((s.fs.take q).map Fd.nm).length cap/\gM wq (M+1) v ((s.fs.take q).map Fd.nm)/\aE (M+1) E wq) (λ_ c _=>s.fs.length-(de c).toNat)
   case atStart=>exact⟨0,tM,0,cN _,rfl,rfl,gM.nil _ _,aq _ _⟩
   case round=>
    obtain⟨q,ue,up,hq,rfl,rfl,vc,t⟩:=hrel;have vd:=zH t;have y:=zH vc;have vu:M+1<=wr.heap.size:=by have:=t.size;omega
    clear m0 m1 k0 k1;obtain⟨m0,m1,_⟩:=yq.out _ t
    by_cases vf:q<s.fs.length
    ·obtain⟨f,vh⟩:∃f,s.fs[q]?=tG f:=⟨_,ap vf⟩
     obtain⟨fb,vx,yy,yW,vy⟩:=Cd.out (by intro e;rw[e] at vf;simp at vf);have zc:fb<N:=by omega
     have zj:cj (aE N w wr):=yb.out.trans ((yp.out.trans (t.mono (by omega))).mono (by omega));have zp:cj (∀k u,f.cells.toList[k]?=tG u->wr.cell? ((⟨fb,vx+q*5,tM⟩:fS).add k)=tG u):=λk u hu=>by
      rw[cY,zj.out.cell (p:=⟨fb,_,tM⟩) zc];exact vy q f vh k u hu
     obtain⟨P,hP⟩:=zE wr.heap.size;obtain⟨G,o⟩:=zE (wr.alloc (uc f.cells 92));have CA:∀(c:eA cA),c.size=5->(dt ⟨P,0,tM⟩ f.cells.toList 0).run am (wr.alloc (uc c 92))= .ok () G:=λc hc=>by
      rw[<-o,<-hP];exact cx (P:=am) wr 92 c f.cells (by show _=tG 5;kernel_rfl) hc (oZ f)
     have we:G.heap[P]?=tG (uc f.cells 92 (0,0)):=by rw[<-o,<-hP];exact alloc_at _ _
     have zs:G.heap.size=P+1:=by rw[<-o];simp[hP]
     have p0:=zR we 0 (tS f.nm);have zv:cj (aE (M+1) E G):=by rw[<-o];exact vd.out.alloc vu _
     have vm:cj (gM G (M+1) (tU ue ((s.fs.take q).map Fd.nm).length up) ((s.fs.take q).map Fd.nm)):=by rw[<-o];exact y.out.below ((aq _ _).alloc (cg _) _)
     have An:=zH vh;have CC:(q:aw)<(s.fs.length:aw):=by omega
     obtain⟨XQ,ur⟩:=zE ((s.fs.take q).map Fd.nm);have At:XQ.length<=90000:=by rw[<-ur];simp;omega
     have Ax:=zH ur;rw[yy];rw[ur] at vm⊢;clear t vc y vh yW vy we o ur
     go_wp2_with (first
      |(refine au rfl 92 _ rfl ⟨fb,vx+q*5,tM⟩ rfl f.cells _ zp.out underlying92 rfl (by kernel_rfl) ?_)
      |(at_builtin;refine gY rfl (.tmp 26) (.tmp 29) rfl (M+1) (tU ue XQ.length up) XQ rfl (vm.out.below ((aq _ _).alloc (cg _) _)) ⟨P+1,0,tM⟩ f.nm 1 rfl ?c0 At ?c1 ?_))
     case c0=>rw[<-zs,World.cell?_alloc_new];rfl
     case c1=>rw[World.size_alloc];omega
     intro v5 w5 uv wg;obtain⟨X5,vp⟩:=zE (XQ++[f.nm]);rw[vp] at uv;obtain⟨wj,wk,rfl⟩:=uv.isSlice;have wl:cj (X5=(s.fs.take (q+1)).map Fd.nm):=by unfold cj;rw[jU Fd.nm An.out,Ax.out,vp]
     have AD:cj (aE (M+1) E w5):=(zv.out.alloc (by omega) _).trans (gM.grown (vm.out.below ((aq _ _).alloc (cg _) _)) wg (cg _) (by simp;omega));have AE:cj (gM w5 (M+1) (tU wj X5.length wk) X5):=uv;clear uv wg vp;go_wp2;go_roundw
     case rel=>exact⟨q+1,wj,wk,by omega,by go_num,by rw[<-wl.out],by rw[<-wl.out];exact AE.out,AD.out⟩
     case measure=>simp[de];omega
    ·have AF:q=s.fs.length:=by omega
     subst AF;rw[cR] at y⊢;obtain⟨XF,ux⟩:=zE (s.fs.map Fd.nm);have xt:cj (zP 133 #[tU ue XF.length up] wr (ua (decide (¬XF.Nodup)))):=by
      rw[<-ux];exact jT wr up ue (s.fs.map Fd.nm) (by simp;exact xf) (λx hx=>by
       obtain⟨f,AH,rfl⟩:=gi.1 hx;exact Cl.out f AH) y.out.at_
     rw[ux];have A3:=zH ux;clear ux y;obtain⟨d,hd⟩:=zE (decide (¬XF.Nodup));rw[hd] at xt;have HD:=zH hd;clear hd vc t;cases d with
     |true=>
      have CD:cj (R=tP):=by
       unfold cj;rw[HR.out,kh.2 ⟨s,cd yr.out,by rw[A3.out];exact HD.out⟩];rfl
      go_wp2_with (go_at_call 133;refine xt.out.mono ?_;rintro e w6 ⟨rfl,J⟩;have z:=zH J;clear J)
      go_ret;rw[CD.out]
      try rw[HN.out]
      exact⟨rfl,yb.out.trans ((yp.out.trans ((vd.out.trans (z.out.mono vu)).mono (by omega))).mono (by omega))⟩
     |false=>
      have CH:cj ((s.fs.map Fd.nm).Nodup):=by
       unfold cj;rw[A3.out];exact Decidable.of_not_not (of_decide_eq_false HD.out)
      go_upto_region 13 with(go_at_call 133;refine xt.out.mono ?_;rintro e w6 ⟨rfl,J⟩;have z:cj (aE (M+1) E w6):=vd.out.trans (J.mono vu);clear J)
      obtain⟨n0,_,_⟩:=yq.out w6 z.out;have Ds:M+1<=w6.heap.size:=by have:=z.out.size;omega
      have A4:cj (gM w6 (N+1) (tU ao g.length cap) g):=by
       refine A2.out.below (qe z.out ?_);omega
      clear m0 m1 xt
      go_wp2_with (at_builtin;refine gY rfl (.tmp 34) (.tmp 37) rfl (N+1) (tU ao g.length cap) g rfl (A4.out.below ((aq _ _).alloc (cg _) _)) ⟨w6.heap.size,0,tM⟩ s.s.nm 1 rfl ?c0 yv ?c1 ?_)
      case c0=>rw[World.cell?_alloc_new];rfl
      case c1=>rw[World.size_alloc];omega
      intro v7 w7 xF A5;obtain⟨X7,AI⟩:=zE (g++[s.s.nm]);rw[AI] at xF;obtain⟨A6,Bk,rfl⟩:=xF.isSlice;have Bm:cj (X7=(m.ss.take (j+1)).map λs=>s.s.nm):=by unfold cj;rw[jU (λs:St=>s.s.nm) yr.out,Cp.out,AI]
      have AK:cj (aE (N+1) W1 w7):=((yp.out.trans (z.out.mono (by omega))).alloc (by omega) _).trans (gM.grown (A4.out.below ((aq _ _).alloc (cg _) _)) A5 (cg _) (by simp;omega));have CM:cj (gM w7 (N+1) (tU A6 X7.length Bk) X7):=xF;clear xF A5 AI;go_wp2;go_roundw
      case rel=>exact⟨j+1,A6,Bk,by omega,by go_num,by rw[<-Bm.out],by rw[<-Bm.out];exact CM.out,dL (p:=λs:St=>(s.fs.map Fd.nm).Nodup) xj.out yr.out CH.out,AK.out⟩
      case measure=>simp[de];omega
  ·have CN:j=m.ss.length:=by omega
   subst CN;rw[cR] at vq xj⊢;obtain⟨g,K⟩:=zE (m.ss.map λs=>s.s.nm);have yv:g.length<=90000:=by rw[<-K];simp;omega
   rw[K] at vq⊢;have ws:cj (R=(decide (¬g.Nodup)||decide (¬(m.fs.map λf=>f.c.nm).Nodup))):=by
    unfold cj;rw[HR.out,K];have e:(m.ss.any λs=>decide (¬(s.fs.map Fd.nm).Nodup))=tR:=by
     rw[lx];intro s vt;have:=xj.out s vt;simpa using this
    rw[e,Bool.false_or]
   have CT:cj (∀x∈g,x.size<=eC):=λx hx=>by
    rw[<-K] at hx;obtain⟨s,AS,rfl⟩:=gi.1 hx;exact(HM.out.sin s AS).nm
   clear hb yd ye xj HR K
   go_upto_region 16 with(fail)
   obtain⟨A,C4⟩:∃A,A=wr:=⟨_,rfl⟩
   subst C4
   go_loopw [4,43] (λv c wq=>∃(q:bh) (ao:cG fS) (cap:bh),q<=m.fs.length/\c= Z U (q:aw)/\v= tU ao ((m.fs.take q).map λf=>f.c.nm).length cap/\gM wq A.heap.size v ((m.fs.take q).map λf=>f.c.nm)/\aE A.heap.size A wq) (λ_ c _=>m.fs.length-(de c).toNat)
   case atStart=>exact⟨0,tM,0,cN _,rfl,rfl,gM.nil _ _,aq _ _⟩
   case round=>
    obtain⟨q,ue,up,hq,rfl,rfl,vc,t⟩:=hrel;have vd:=zH t;have y:=zH vc;have vu:=t.size;clear k0 k1
    by_cases vf:q<m.fs.length
    ·obtain⟨f,vh⟩:∃f,m.fs[q]?=tG f:=⟨_,ap vf⟩
     obtain⟨fb,vx,yy,yW,vy⟩:=HM.out.frow (by intro e;rw[e] at vf;simp at vf);have zc:fb<N:=by omega
     have zj:cj (aE N w wr):=yi.out.trans (t.mono (by omega));have zp:cj (∀k u,f.cells.toList[k]?=tG u->wr.cell? ((⟨fb,vx+q*8,tM⟩:fS).add k)=tG u):=λk u hu=>by
      rw[cY,zj.out.cell (p:=⟨fb,_,tM⟩) zc];exact vy q f vh k u hu
     obtain⟨P,hP⟩:=zE wr.heap.size;obtain⟨G,o⟩:=zE (wr.alloc (uc f.cells 38));have CA:∀(c:eA cA),c.size=8->(dt ⟨P,0,tM⟩ f.cells.toList 0).run am (wr.alloc (uc c 38))= .ok () G:=λc hc=>by
      rw[<-o,<-hP];exact cx (P:=am) wr 38 c f.cells (by show _=tG 8;kernel_rfl) hc (gm f)
     have we:G.heap[P]?=tG (uc f.cells 38 (0,0)):=by rw[<-o,<-hP];exact alloc_at _ _
     have zs:G.heap.size=P+1:=by rw[<-o];simp[hP]
     have p0:=zR we 0 (tS f.c.nm);have zv:cj (aE A.heap.size A G):=by rw[<-o];exact vd.out.alloc vu _
     have vm:cj (gM G A.heap.size (tU ue ((m.fs.take q).map λf=>f.c.nm).length up) ((m.fs.take q).map λf=>f.c.nm)):=by rw[<-o];exact y.out.below ((aq _ _).alloc (cg _) _)
     have An:=zH vh;have CC:(q:aw)<(m.fs.length:aw):=by omega
     obtain⟨XQ,ur⟩:=zE ((m.fs.take q).map λf=>f.c.nm);have At:XQ.length<=90000:=by rw[<-ur];simp;omega
     have Ax:=zH ur;rw[yy];rw[ur] at vm⊢;clear t vc y vh yW vy we o ur
     go_wp2_with (first
      |(refine au rfl 38 _ rfl ⟨fb,vx+q*8,tM⟩ rfl f.cells _ zp.out cQ rfl (by kernel_rfl) ?_)
      |(at_builtin;refine gY rfl (.tmp 47) (.tmp 50) rfl A.heap.size (tU ue XQ.length up) XQ rfl (vm.out.below ((aq _ _).alloc (cg _) _)) ⟨P+1,0,tM⟩ f.c.nm 1 rfl ?c0 At ?c1 ?_))
     case c0=>rw[<-zs,World.cell?_alloc_new];rfl
     case c1=>rw[World.size_alloc];omega
     intro v5 w5 uv wg;obtain⟨X5,vp⟩:=zE (XQ++[f.c.nm]);rw[vp] at uv;obtain⟨wj,wk,rfl⟩:=uv.isSlice;have wl:cj (X5=(m.fs.take (q+1)).map λf=>f.c.nm):=by unfold cj;rw[jU (λf:Fn=>f.c.nm) An.out,Ax.out,vp]
     have AD:cj (aE A.heap.size A w5):=(zv.out.alloc (by omega) _).trans (gM.grown (vm.out.below ((aq _ _).alloc (cg _) _)) wg (cg _) (by simp;omega));have AE:cj (gM w5 A.heap.size (tU wj X5.length wk) X5):=uv;clear uv wg vp;go_wp2;go_roundw
     case rel=>exact⟨q+1,wj,wk,by omega,by go_num,by rw[<-wl.out],by rw[<-wl.out];exact AE.out,AD.out⟩
     case measure=>simp[de];omega
    ·have AF:q=m.fs.length:=by omega
     subst AF;rw[cR] at y⊢;obtain⟨XF,ux⟩:=zE (m.fs.map λf=>f.c.nm);rw[ux] at y ws⊢;have Bs:∀x∈XF,x.size<=eC:=λx hx=>by
      rw[<-ux] at hx;obtain⟨f,AH,rfl⟩:=gi.1 hx;exact(HM.out.fin f AH).nm
     have C5:XF.length<=90000:=by rw[<-ux];simpa using hf
     have AM:cj (zP 133 #[tU ao g.length cap] wr (ua (decide (¬g.Nodup)))):=
      jT wr cap ao g yv CT.out ((vq.out.below vd.out).at_)
     have By:cj (∀W,aE wr.heap.size wr W->zP 133 #[tU ue XF.length up] W (ua (decide (¬XF.Nodup)))):=λW hW=>
      jT W up ue XF C5 Bs ((y.out.below hW).at_)
     obtain⟨d,hd⟩:=zE (decide (¬g.Nodup));obtain⟨d2,BE⟩:=zE (decide (¬XF.Nodup));rw[hd] at AM ws;rw[BE] at By ws;have BT:cj (aE N w wr):=yi.out.trans (vd.out.mono (by omega));clear vc t ux Bs y vq hd BE;cases d with
     |true=>
      go_wp2_with (go_at_call 133;refine AM.out.mono ?_;rintro e w6 ⟨rfl,J⟩;have z:=zH J;clear J)
      go_ret;rw[ws.out]
      try rw[HN.out]
      exact⟨rfl,BT.out.trans (z.out.mono (by omega))⟩
     |false=>
      go_upto_region 20 with(fail)
      go_wp2_with (first
       |(go_at_call 133;refine(By.out _ z.out).mono ?_;rintro e w7 ⟨rfl,BY⟩;have AK:=zH BY;clear BY)
       |(go_at_call 133;refine AM.out.mono ?_;rintro e w6 ⟨rfl,J⟩;have z:=zH J;clear J))
      go_ret;rw[ws.out]
      try rw[HN.out]
      exact⟨rfl,(BT.out.trans (z.out.mono (by omega))).trans (AK.out.mono (by have:=z.out.size;omega))⟩
def wK (t:Ty):eA cA:=#[ub #[ua t.1,tS t.2]]
def nR (N B:bh)(k:bh):Prop:=k<N\/k=B
def IX (f:Fn):bj Ty:=f.ret::f.vs.map Vr.ty
def IY (s:St):bj Ty:=s.fs.map Fd.ty
def kV (m:Mo)(j:bh):bj Ty:=(m.fs.drop j).flatMap IX
def lM (m:Mo)(j:bh):bj Ty:=(m.ss.drop j).flatMap IY++kV m 0
theorem Ar (m:Mo):bV m=lM m 0:=rfl
theorem Cy {m:Mo}{j:bh}{s:St}(h:m.ss[j]?=tG s):lM m j=(s.fs.drop 0).map Fd.ty++lM m (j+1):=by
 obtain⟨d,e⟩:=bl.1 h;unfold lM;rw[jn d,e,fW,eq];rfl
theorem Er (m:Mo):lM m m.ss.length=kV m 0:=by
 unfold lM;simp
theorem Cz {m:Mo}{j:bh}{f:Fn}(h:m.fs[j]?=tG f):kV m j=f.ret::((f.vs.drop 0).map Vr.ty++kV m (j+1)):=by
 obtain⟨d,e⟩:=bl.1 h;unfold kV;rw[jn d,e,fW];rfl
theorem Es (m:Mo):kV m m.fs.length=[]:=by
 unfold kV;simp
theorem nA {α:Type}{l:bj α}{q:bh}{x:α}(f:α->Ty)(h:l[q]?=tG x):(l.drop q).map f=f x::(l.drop (q+1)).map f:=by
 obtain⟨d,e⟩:=bl.1 h;rw[jn d,e,mA]
theorem o7 {α:Type}(l:bj α)(f:α->Ty):(l.drop l.length).map f=[]:=by simp
theorem yj (f:Vr):(f.cells.all λx=>x.oneCell')=tP:=by
 rw[<-ly];simp[Vr.cells,ct]
theorem sW {d r:bj Ty}{x:Ty}{xs:bj Ty}(h:xs=d++x::r):(d++[x])<+:xs/\xs=(d++[x])++r:=by
 subst h;exact⟨⟨r,by simp⟩,by simp⟩
theorem Au (w0 w:World)(m:Mo)(B:bh)(h:m.inn w0)(hb:aE w0.heap.size w0 w)(hB:w.heap[B]?=tG (uc m.cells 25 (0,0)))(xj:∀s∈m.ss,s.fs.length<=90000)(xo:∀f∈m.fs,f.vs.length<=90000)(B7:m.ss.length<=90000)(B8:m.fs.length<=90000):
  Iter am 134 #[tW (tG ⟨B,0,tM⟩)] wK (bV m) (nR w0.heap.size B) w:=by
 intro l J Jx C W xp hst zc hstx zj hJ;have ws:=zH hst;have vr:=zH zc;have HM:=zH zj;have HJ:=zH hJ;have AH:=zH xj;have AI:=zH xo;have zp:W.heap[B]?=tG (uc m.cells 25 (0,0)):=(xp.block B (br.1 hB).1).trans hB;obtain⟨N,hN⟩:=zE w0.heap.size;rw[hN] at vr;have HR:cj (∀W1,Ext (λk=>¬nR N B k) W W1->W1.cell? ⟨B,0,tM⟩=tG (tU m.sA m.ss.length m.sC)/\W1.cell? ⟨B,1,tM⟩=tG (tU m.fA m.fs.length m.fC)/\m.inn W1/\B<W1.heap.size):=by
  intro W1 hx;have q:=hx.heap zp (λh=>h (.inr rfl));refine⟨by rw[bw _ _ _ _ _ _ q];rfl,by rw[bw _ _ _ _ _ _ q];rfl, ?_,(br.1 q).1⟩;have b1:aE w0.heap.size w0 W:=hb.trans (xp.mono hb.size);have b2:aE N W W1:=hx.below (by rw[<-hN];exact b1.size) (λk hk=>by
   by_cases e:k<N
   ·exact fL (.inl e) hk
   ·omega)
  exact h.below (b1.trans (by rw[hN];exact b2))
 obtain⟨y,xt⟩:=zE (bV m);rw[xt] at HM⊢;have AK:cj (y=lM m 0):=by rw[<-xt];exact Ar m
 obtain⟨c0,c1,_,B9⟩:=HR.out W (Ext.refl _ _);clear hst zc hstx zj hJ h hb hB xp zp xt hN xj xo
 show ge _ _ #[.func (.yield l) #[] #[],tW (tG ⟨B,0,tM⟩)] _ _
 go_enter func134,ntmps134
 go_wp2_with fail
 go_loopw [14] (λc wr=>∃(j:bh) (d:bj Ty) (C:bh->Prop),j<=m.ss.length/\c= Z U (j:aw)/\y=d++lM m j/\J d C wr/\Ext (λk=>¬nR N B k) W wr) (λc _=>m.ss.length-(de c).toNat)
 case atStart=>exact⟨0,[],C,cN _,rfl,AK.out,HJ.out,Ext.refl _ _⟩
 case round=>
  clear c0 c1;obtain⟨j,d,C1,hj,rfl,z,vd,ue⟩:=hrel;have vt:=zH ue;have vf:=zH vd;have Cd:=zH z;obtain⟨c0,c1,up,Cl⟩:=HR.out wr ue
  by_cases vh:j<m.ss.length
  ·obtain⟨s,hs⟩:∃s,m.ss[j]?=tG s:=⟨_,ap vh⟩
   have xF:=cd hs;have zs:=up.sin s xF;obtain⟨b0,zv,hA,AM,An⟩:=up.srow (by intro e;rw[e] at vh;simp at vh);have AN:cj (∀k u,s.cells.toList[k]?=tG u->wr.cell? ((⟨b0,zv+j*4,tM⟩:fS).add k)=tG u):=λk u hu=>by
    rw[cY];exact An j s hs k u hu
   obtain⟨M,hM⟩:=zE wr.heap.size;obtain⟨W2,vu⟩:=zE (wr.alloc (uc s.cells 90));have hst:∀(c:eA cA),c.size=4->(dt ⟨M,0,tM⟩ s.cells.toList 0).run am (wr.alloc (uc c 90))= .ok () W2:=λc hc=>by
    rw[<-vu,<-hM];exact cx (P:=am) wr 90 c s.cells (by show _=tG 4;kernel_rfl) hc (oW s)
   have xT:W2.heap[M]?=tG (uc s.cells 90 (0,0)):=by rw[<-vu,<-hM];exact alloc_at _ _
   have m1:W2.cell? ⟨M,1,tM⟩=tG (tU s.s.fA s.fs.length s.s.fC):=by rw[bw _ _ _ _ _ _ xT,<-zs.nf];rfl
   have Cp:M<W2.heap.size:=(br.1 xT).1;have AS:cj (Ext (λk=>¬nR N B k) W W2):=by rw[<-vu];exact vt.out.alloc _
   have AT:cj (J d C1 W2):=by rw[<-vu];exact ws.out _ _ _ _ vf.out ((Ext.refl _ _).alloc _)
   have At:y=d++((s.fs.drop 0).map Fd.ty++lM m (j+1)):=by rw[z,Cy hs]
   have AW:=zH At;have HS:=zH hs;have xj:=AH.out s xF;have A0:(j:aw)<(m.ss.length:aw):=by omega
   rw[hA] at c0⊢;clear ue vd z zs AM An hs xT vu At up
   go_upto_region 4 with(refine au rfl 90 _ rfl ⟨b0,zv+j*4,tM⟩ rfl s.cells _ AN.out oB rfl (by kernel_rfl) ?_)
   go_loopw [21] (λc wq=>∃(q:bh) (d:bj Ty) (C:bh->Prop),q<=s.fs.length/\c= Z U (q:aw)/\y=d++((s.fs.drop q).map Fd.ty++lM m (j+1))/\J d C wq/\Ext (λk=>¬nR N B k) W wq) (λc _=>s.fs.length-(de c).toNat)
   case atStart=>exact⟨0,d,C1,cN _,rfl,AW.out,AT.out,AS.out⟩
   case round=>
    clear m1 c0 c1;obtain⟨q,E,C2,hq,rfl,G,vm,ur⟩:=hrel;have vx:=zH ur;have vy:=zH vm;obtain⟨_,_,yb,_⟩:=HR.out wr ur
    by_cases vp:q<s.fs.length
    ·obtain⟨f,hf⟩:∃f,s.fs[q]?=tG f:=⟨_,ap vp⟩
     obtain⟨fb,we,yd,ye,wg⟩:=(yb.sin s xF).row (by intro e;rw[e] at vp;simp at vp);have yi:cj (∀k u,f.cells.toList[k]?=tG u->wr.cell? ((⟨fb,we+q*5,tM⟩:fS).add k)=tG u):=λk u hu=>by
      rw[cY];exact wg q f hf k u hu
     obtain⟨P,hP⟩:=zE wr.heap.size;obtain⟨g,K⟩:=zE (wr.alloc (uc f.cells 92));have A1:∀(c:eA cA),c.size=5->(dt ⟨P,0,tM⟩ f.cells.toList 0).run am (wr.alloc (uc c 92))= .ok () g:=λc hc=>by
      rw[<-K,<-hP];exact cx (P:=am) wr 92 c f.cells (by show _=tG 5;kernel_rfl) hc (oZ f)
     have R:g.heap[P]?=tG (uc f.cells 92 (0,0)):=by rw[<-K,<-hP];exact alloc_at _ _
     have p1:=zR R 1 (ua f.ptr);have p2:=zR R 2 (tS f.tgt);have A2:P<g.heap.size:=(br.1 R).1;have yk:cj (Ext (λk=>¬nR N B k) W g):=by rw[<-K];exact vx.out.alloc _
     have vq:J E C2 g:=by rw[<-K];exact ws.out _ _ _ _ vy.out ((Ext.refl _ _).alloc _)
     have yp:=zH vq;have ux:y=E++f.ty::((s.fs.drop (q+1)).map Fd.ty++lM m (j+1)):=by rw[G,nA Fd.ty hf];rfl
     have HP:=zH (sW ux);have A:=zH (HM.out E f.ty C2 g vq HP.out.1);unfold wK at A;simp only[Fd.ty] at A;have A3:(q:aw)<(s.fs.length:aw):=by omega
     rw[yd];clear ur vm G hf ye wg R K vq ux yb
     go_upto_region 6 with(refine au rfl 92 _ rfl ⟨fb,we+q*5,tM⟩ rfl f.cells _ yi.out underlying92 rfl (by kernel_rfl) ?_)
     refine(rv (n:=0)).1 ?_;refine wpIn_region_lit (aX rfl (by simp) (.func (.yield l) #[] #[]) (w':=g) (by simp[go_sem]) ?_);simp only[eh,bp,cn,co];refine aX rfl (by simp) (tW (tG ⟨P,1,tM⟩)) (w':=g) (by simp[go_sem]) ?_;simp only[eh,bp,cn,co];refine aX rfl (by simp) (ub #[ua f.ptr,tS f.tgt]) (w':=g) (by simp[go_sem,p1,p2]) ?_;simp only[eh,bp,cn,co];refine jr (fv:= .func (.yield l) #[] #[]) (args:=#[ub #[ua (f.ptr,f.tgt).1,tS (f.ptr,f.tgt).2]]) rfl (.tmp 25) #[.tmp 27] _ rfl rfl (by simp[Act.eval]) A.out ?_;intro v o hv;simp only[eh,bp,cn,co];rcases hv with⟨rfl,C',wj,t,uv⟩|⟨rfl,t⟩
     ·refine aX rfl (by simp) (ua tR) (w':=o) (by simp[go_sem]) ?_
      simp only[eh,bp,cn,co];refine pc ?_;have wk:cj (J (E++[f.ty]) C' o/\Ext (λk=>¬nR N B k) W o):=⟨t,yk.out.trans uv (λk hk=> .inl ((vr.out _ _ _ yp.out k hk).2))⟩
      clear t uv wj p1 p2;go_wp2;go_roundw
      case rel=>exact⟨q+1,_,C',by omega,by go_num,HP.out.2,wk.out.1,wk.out.2⟩
      case measure=>simp[de];omega
     ·refine aX rfl (by simp) (ua tP) (w':=o) (by simp[go_sem]) ?_
      simp only[eh,bp,cn,co];refine pc ?_;have HF:cj (∃d,d<+:y/\Jx d o):=⟨_,HP.out.1,t⟩
      clear t p1 p2;go_wp2
      ((try simp only[dk,Exit.then]);(try rw[ml]);(first|refine er (li rfl _ _ _) rfl ?_|refine tA (li rfl _ _ _) rfl ?_));exact⟨_,rfl,.inr HF.out⟩
    ·have yq:q=s.fs.length:=by omega
     subst yq;rw[o7,fN] at G;have vc:=zH G;clear ur vm G yb;go_wp2;go_roundw
     case rel=>exact⟨j+1,E,C2,by omega,by go_num,vc.out,vy.out,vx.out⟩
     case measure=>simp[de];omega
  ·have yr:j=m.ss.length:=by omega
   subst yr;rw[Er] at z;have vc:=zH z;obtain⟨wo,A4⟩:∃wo,wo=wr:=⟨_,rfl⟩
   subst A4;clear ue vd z up
   go_upto_region 10 with(fail)
   go_loopw [35] (λc wr=>∃(j:bh) (d:bj Ty) (C:bh->Prop),j<=m.fs.length/\c= Z U (j:aw)/\y=d++kV m j/\J d C wr/\Ext (λk=>¬nR N B k) W wr) (λc _=>m.fs.length-(de c).toNat)
   case atStart=>exact⟨0,d,C1,cN _,rfl,vc.out,vf.out,vt.out⟩
   case round=>
    clear c0 c1 vc vf vt;obtain⟨j,d,C1,hj,rfl,z,vd,ue⟩:=hrel;have vt:=zH ue;have vf:=zH vd;obtain⟨_,_,up,_⟩:=HR.out wr ue
    by_cases vh:j<m.fs.length
    ·obtain⟨f,hf⟩:∃f,m.fs[j]?=tG f:=⟨_,ap vh⟩
     have yv:=cd hf;have A5:=(up.fin f yv).nvars;obtain⟨fb,we,yd,ye,wg⟩:=up.frow (by intro e;rw[e] at vh;simp at vh);have yi:cj (∀k u,f.cells.toList[k]?=tG u->wr.cell? ((⟨fb,we+j*8,tM⟩:fS).add k)=tG u):=λk u hu=>by
      rw[cY];exact wg j f hf k u hu
     obtain⟨P,hP⟩:=zE wr.heap.size;obtain⟨g,K⟩:=zE (wr.alloc (uc f.cells 38));have A1:∀(c:eA cA),c.size=8->(dt ⟨P,0,tM⟩ f.cells.toList 0).run am (wr.alloc (uc c 38))= .ok () g:=λc hc=>by
      rw[<-K,<-hP];exact cx (P:=am) wr 38 c f.cells (by show _=tG 8;kernel_rfl) hc (gm f)
     have R:g.heap[P]?=tG (uc f.cells 38 (0,0)):=by rw[<-K,<-hP];exact alloc_at _ _
     have p3:=zR R 3 (ua f.c.rp);have p4:=zR R 4 (tS f.c.rto);have A2:P<g.heap.size:=(br.1 R).1;have yk:cj (Ext (λk=>¬nR N B k) W g):=by rw[<-K];exact vt.out.alloc _
     have vq:J d C1 g:=by rw[<-K];exact ws.out _ _ _ _ vf.out ((Ext.refl _ _).alloc _)
     have yp:=zH vq;have A6:cj (¬C1 P):=λh=>by have:=(vr.out _ _ _ vf.out P h).1;omega
     have Bk:=zH R;have ux:y=d++f.ret::((f.vs.drop 0).map Vr.ty++kV m (j+1)):=by rw[z,Cz hf]
     have HP:=zH (sW ux);have A:=zH (HM.out d f.ret C1 g vq HP.out.1);unfold wK at A;simp only[Fn.ret] at A;have A0:(j:aw)<(m.fs.length:aw):=by omega
     have xo:=AI.out f yv;have Bm:cj (∀W1,Ext (λk=>¬nR N B k) W W1->aJ Vr.cells 3 W1 W1.heap.size f.c.varsA f.vs):=λW1 hx=>((HR.out W1 hx).2.2.1.fin f yv).vars;rw[yd];clear ue vd z hf ye wg R K vq ux up
     go_upto_region 12 with(refine au rfl 38 _ rfl ⟨fb,we+j*8,tM⟩ rfl f.cells _ yi.out cQ rfl (by kernel_rfl) ?_)
     refine(rv (n:=0)).1 ?_;refine wpIn_region_lit (aX rfl (by simp) (.func (.yield l) #[] #[]) (w':=g) (by simp[go_sem]) ?_);simp only[eh,bp,cn,co];refine aX rfl (by simp) (tW (tG ⟨P,3,tM⟩)) (w':=g) (by simp[go_sem]) ?_;simp only[eh,bp,cn,co];refine aX rfl (by simp) (tW (tG ⟨P,3,tM⟩)) (w':=g) (by simp[go_sem]) ?_;simp only[eh,bp,cn,co];refine aX rfl (by simp) (ub #[ua f.c.rp,tS f.c.rto]) (w':=g) (by simp[go_sem,p3,p4]) ?_;simp only[eh,bp,cn,co];refine jr (fv:= .func (.yield l) #[] #[]) (args:=#[ub #[ua (f.c.rp,f.c.rto).1,tS (f.c.rp,f.c.rto).2]]) rfl (.tmp 39) #[.tmp 42] _ rfl rfl (by simp[Act.eval]) A.out ?_;intro v o hv;simp only[eh,bp,cn,co];rcases hv with⟨rfl,C',wj,t,uv⟩|⟨rfl,t⟩
     ·refine aX rfl (by simp) (ua tR) (w':=o) (by simp[go_sem]) ?_
      simp only[eh,bp,cn,co];refine pc ?_;have wk:cj (J (d++[f.ret]) C' o/\Ext (λk=>¬nR N B k) W o):=⟨t,yk.out.trans uv (λk hk=> .inl ((vr.out _ _ _ yp.out k hk).2))⟩
      have q3:=uv.heap Bk.out A6.out;have p2:o.cell? ⟨P,2,tM⟩=tG (tU f.c.varsA f.vs.length f.c.varsC):=by rw[bw _ _ _ _ _ _ q3,<-A5];rfl
      have CA:P<o.heap.size:=(br.1 q3).1;have Bs:cj (y=(d++[f.ret])++((f.vs.drop 0).map Vr.ty++kV m (j+1))):=HP.out.2;clear t uv wj p3 p4 q3 A;obtain⟨CC,By⟩:∃wo,wo=wr:=⟨_,rfl⟩
      subst By
      go_upto_region 14 with(fail)
      go_loopw [48] (λc wq=>∃(q:bh) (d:bj Ty) (C:bh->Prop),q<=f.vs.length/\c= Z U (q:aw)/\y=d++((f.vs.drop q).map Vr.ty++kV m (j+1))/\J d C wq/\Ext (λk=>¬nR N B k) W wq) (λc _=>f.vs.length-(de c).toNat)
      case atStart=>exact⟨0,_,C',cN _,rfl,Bs.out,wk.out.1,wk.out.2⟩
      case round=>
       clear p2;obtain⟨q,E,C2,hq,rfl,G,vm,ur⟩:=hrel;have vx:=zH ur;have vy:=zH vm
       by_cases vp:q<f.vs.length
       ·obtain⟨x,hx⟩:∃x,f.vs[q]?=tG x:=⟨_,ap vp⟩
        obtain⟨vb,Ax,BE,BT,AD⟩:=Bm.out wr ur (by intro e;rw[e] at vp;simp at vp);have BY:cj (∀k u,x.cells.toList[k]?=tG u->wr.cell? ((⟨vb,Ax+q*3,tM⟩:fS).add k)=tG u):=λk u hu=>by
         rw[cY];exact AD q x hx k u hu
        obtain⟨P2,AE⟩:=zE wr.heap.size;obtain⟨W4,wl⟩:=zE (wr.alloc (uc x.cells 34));have CD:∀(c:eA cA),c.size=3->(dt ⟨P2,0,tM⟩ x.cells.toList 0).run am (wr.alloc (uc c 34))= .ok () W4:=λc hc=>by
         rw[<-wl,<-AE];exact cx (P:=am) wr 34 c x.cells (by show _=tG 3;kernel_rfl) hc (yj x)
        have xf:W4.heap[P2]?=tG (uc x.cells 34 (0,0)):=by rw[<-wl,<-AE];exact alloc_at _ _
        have p0:=zR xf 0 (ua x.ptr);have p1:=zR xf 1 (tS x.tgt);have CH:P2<W4.heap.size:=(br.1 xf).1;have B5:cj (Ext (λk=>¬nR N B k) W W4):=by rw[<-wl];exact vx.out.alloc _
        have yy:J E C2 W4:=by rw[<-wl];exact ws.out _ _ _ _ vy.out ((Ext.refl _ _).alloc _)
        have B6:=zH yy;have ux:y=E++x.ty::((f.vs.drop (q+1)).map Vr.ty++kV m (j+1)):=by rw[G,nA Vr.ty hx];rfl
        have yW:=zH (sW ux);have A:=zH (HM.out E x.ty C2 W4 yy yW.out.1);unfold wK at A;simp only[Vr.ty] at A;have A3:(q:aw)<(f.vs.length:aw):=by omega
        rw[BE];clear ur vm G hx BT AD xf wl yy ux
        go_upto_region 16 with(refine au rfl 34 _ rfl ⟨vb,Ax+q*3,tM⟩ rfl x.cells _ BY.out underlying34 rfl (by kernel_rfl) ?_)
        refine(rv (n:=0)).1 ?_;refine wpIn_region_lit (aX rfl (by simp) (.func (.yield l) #[] #[]) (w':=W4) (by simp[go_sem]) ?_);simp only[eh,bp,cn,co];refine aX rfl (by simp) (tW (tG ⟨P2,0,tM⟩)) (w':=W4) (by simp[go_sem]) ?_;simp only[eh,bp,cn,co];refine aX rfl (by simp) (ub #[ua x.ptr,tS x.tgt]) (w':=W4) (by simp[go_sem,p0,p1]) ?_;simp only[eh,bp,cn,co];refine jr (fv:= .func (.yield l) #[] #[]) (args:=#[ub #[ua (x.ptr,x.tgt).1,tS (x.ptr,x.tgt).2]]) rfl (.tmp 52) #[.tmp 54] _ rfl rfl (by simp[Act.eval]) A.out ?_;intro v o hv;simp only[eh,bp,cn,co];rcases hv with⟨rfl,C',wj,t,uv⟩|⟨rfl,t⟩
        ·refine aX rfl (by simp) (ua tR) (w':=o) (by simp[go_sem]) ?_
         simp only[eh,bp,cn,co];refine pc ?_;have AF:cj (J (E++[x.ty]) C' o/\Ext (λk=>¬nR N B k) W o):=⟨t,B5.out.trans uv (λk hk=> .inl ((vr.out _ _ _ B6.out k hk).2))⟩
         clear t uv wj p0 p1;go_wp2;go_roundw
         case rel=>exact⟨q+1,_,C',by omega,by go_num,yW.out.2,AF.out.1,AF.out.2⟩
         case measure=>simp[de];omega
        ·refine aX rfl (by simp) (ua tP) (w':=o) (by simp[go_sem]) ?_
         simp only[eh,bp,cn,co];refine pc ?_;have HF:cj (∃d,d<+:y/\Jx d o):=⟨_,yW.out.1,t⟩
         clear t p0 p1;go_wp2
         ((try simp only[dk,Exit.then]);(try rw[ml]);(first|refine er (li rfl _ _ _) rfl ?_|refine tA (li rfl _ _ _) rfl ?_));exact⟨_,rfl,.inr HF.out⟩
       ·have yq:q=f.vs.length:=by omega
        subst yq;rw[o7,fN] at G;have vc:=zH G;clear ur vm G;go_wp2;go_roundw
        case rel=>exact⟨j+1,E,C2,by omega,by go_num,vc.out,vy.out,vx.out⟩
        case measure=>simp[de];omega
     ·refine aX rfl (by simp) (ua tP) (w':=o) (by simp[go_sem]) ?_
      simp only[eh,bp,cn,co];refine pc ?_;have HF:cj (∃d,d<+:y/\Jx d o):=⟨_,HP.out.1,t⟩
      clear t p3 p4;go_wp2
      ((try simp only[dk,Exit.then]);(try rw[ml]);(first|refine er (li rfl _ _ _) rfl ?_|refine tA (li rfl _ _ _) rfl ?_));exact⟨_,rfl,.inr HF.out⟩
    ·have yr:j=m.fs.length:=by omega
     subst yr;rw[Es,ej] at z;have vc:cj (J y C1 wr):=by unfold cj;rw[z];exact vf.out
     clear ue vd z up;go_wp2
     ((try simp only[dk,Exit.then]);(try rw[ml]);(first|refine er (li rfl _ _ _) rfl ?_|refine tA (li rfl _ _ _) rfl ?_));exact⟨_,rfl,.inl ⟨C1,vc.out⟩⟩
section
attribute [local go_sem] Oper.semAt_some
private theorem FT (p:Tmp)(v:cA)(t:eA cA):((#[p]:eA Tmp).zip #[v]).foldl (λt (p,v)=>t.setIfInBounds p v) t=t.setIfInBounds p v:=by simp
theorem Av (m:Mo)(w:World):ge am 95 #[ub m.cells] w λe w'=>
  e= ud (.func (.func 134) #[] #[tW (tG ⟨w.heap.size,0,tM⟩)])/\w'=w.alloc (uc m.cells 25):=by
 have d:∀(fn:Fn)(first cap:eA cA)(w:World),True:=λ_ _ _ _=>trivial;go_enter func95,ntmps95;go_wp2;go_ret;exact⟨rfl,rfl⟩
def CB:Fn:=⟨⟨⟨#[]⟩,0,tM,0,0,tR,⟨#[]⟩,0,tM,0,0,tM,0,[]⟩,[],[],[]⟩
def rO (d:eA cA):bh->bj cA->eA cA
 |_,[]=>d
 |o,v::r=>rO (d.setIfInBounds o v) (o+1) r
theorem o8 {b:bh}{t:gt}:∀(e:bj cA)(o:bh)(w:World)(d:eA cA),w.heap[b]?=tG (uc d t (0,0))->(w.setCells b o e).heap[b]?=tG (uc (rO d o e) t (0,0))
 |[],_,_,_,h=>h
 |v::r,o,w,d,h=>o8 r (o+1) _ _ (gj w b o d t v h)
theorem CE (m:Mo)(g f:Fn):rO (jg m g) 2 f.cells.toList=jg m f:=by
 simp[rO,jg,Fn.cells,dx.cells]
theorem Iq (m:Mo)(g:Fn):((jg m g).all λx=>x.oneCell')=tP:=by
 rw[<-ly];simp[jg,ct]
theorem dw (tmps:eA cA)(w:World)(d:fS)(v:cA)(e:tmps[2]?=tG (tW (tG d)))(f:w.cell? d=tG v):(th Tryz.f53 tmps).run am w= .ok v w:=by
 simp[th,go_sem,e,f]
structure iG (w:World)(m:Mo):Prop where
 mo:m.inn w
 sl:m.ss.length<=90000
 fl:m.fs.length<=90000
 fd:∀s∈m.ss,s.fs.length<=90000
 vl:∀f∈m.fs,f.vs.length<=90000
 al:∀f∈m.fs,∀i∈f.c.ins,i.args.length<=40
theorem World.keptBut_ext (b:bh):∀(d:bj cA)(o:bh)(w:World),Ext (·=b) w (w.setCells b o d)
 |[],_,w=>Ext.refl _ w
 |v::r,o,w=>(Ext.set1 w b o v).trans (World.keptBut_ext b r (o+1) _) (λ_ e=> .inl e)
structure RI (m:Mo)(N:bh)(XS:bj Ty)(W5:World)(pre:bj Ty)(C:bh->Prop)(W:World):Prop where
 res:W.heap[N+1]?=tG (uc #[Z U 0] 27 (0,0))
 ext:Ext (λk=>k=N+1) W5 W
 kn:∀t∈pre,m.known t=tP
 own:(C=λk=>k=N+1)\/∃(b:bh) (t:Ty),C=(λk=>k=N+1\/k=b)/\XS[pre.length]?=tG t/\W5.heap.size<=b/\W.heap[b]?=tG (uc #[ua t.1,tS t.2] 32 (0,0))
theorem RI.next {m:Mo}{N:bh}{g o:bj Ty}{d W q:World}{C:bh->Prop}(h:RI m N g d o C W)(z:N+1<d.heap.size)(f:Ext (λk=>d.heap.size<=k/\¬C k) W q):RI m N g d o C q:=by
 refine⟨f.heap h.res (λh=>by omega),h.ext.trans f (λj u=> .inr u.1),h.kn, ?_⟩;rcases h.own with e|⟨b,t,e,v,x,y⟩
 ·exact .inl e
 ·exact .inr ⟨b,t,e,v,x,f.heap y (λh=>h.2 (by rw[e];exact .inr rfl))⟩
theorem RI.res_own {m:Mo}{N:bh}{d f:bj Ty}{g W:World}{C:bh->Prop}(h:RI m N d g f C W):C (N+1):=by
 rcases h.own with e|⟨b,t,e,_⟩
 ·rw[e]
 ·rw[e];exact .inl rfl
structure RX (m:Mo)(N:bh)(W5:World)(c:Code)(C:bh->Prop)(W:World):Prop where
 ret:c= .ret
 res:W.heap[N+1]?=tG (uc #[Z U 5] 27 (0,0))
 ext:Ext (λk=>k=N+1) W5 W
 bad:(bV m).all m.known=tR
 own:C (N+1)
theorem qL (m:Mo)(w:World)(h:iG w m):
  zP 53 #[ub m.cells] w (Z U (eU m)):=by
 have HM:=zH h;obtain⟨R,hR⟩:=zE (eU m);have HR:cj (R=if 30<m.ss.length\/60<m.fs.length then 2
  else if dJ m=tP then 6
  else if (bV m).all m.known=tR then 5
  else if aV (codeF m) m.fs≠0 then aV (codeF m) m.fs
  else bU (decide (0<=m.fnIx dO)&&(match m.fs[(m.fnIx dO).toNat]? with
   |some g=>decide (g.c.par=0)&& !g.c.rp
   |none=>tR)) 9):=hR.symm
 rw[hR];clear h hR;obtain⟨N,hN⟩:=zE w.heap.size;obtain⟨W1,yi⟩:=zE ((w.alloc (uc m.cells 25)).alloc (uc #[Z U 0] 27));have B9:=vX yi hN;have yk:W1.heap.size=N+2:=by rw[<-yi];simp[hN]
 have wl:=vY yi hN;have ux:=zl yi hN;obtain⟨W2,vq⟩:=zE (W1.alloc (uc (jg m CB) 184));have hst:∀(c:eA cA),c.size=10->(dt ⟨N+2,0,tM⟩ (jg m CB).toList 0).run am (W1.alloc (uc c 184))= .ok () W2:=λc hc=>by
  rw[<-vq,<-yk];exact cx (P:=am) W1 184 c (jg m CB) (by show _=tG 10;kernel_rfl) hc (Iq m CB)
 simp only[jg,CB,mC] at hst;have b0:=zR wl 0 (tU m.sA m.ss.length m.sC);have b1:=zR wl 1 (tU m.fA m.fs.length m.fC);have yp:aE (N+2) W1 W2:=by rw[<-vq,<-yk];exact(aq _ _).alloc (cg _) _
 have FA:W2.heap.size=N+3:=by rw[<-vq];simp[yk]
 have Cd:W2.heap[N+2]?=tG (uc (jg m CB) 184 (0,0)):=by rw[<-vq,<-yk];exact alloc_at _ _
 have vr:cj (∀W,aE (N+3) W2 W->W.heap[N]?=tG (uc m.cells 25 (0,0))/\W.heap[N+1]?=tG (uc #[Z U 0] 27 (0,0))/\W.heap[N+2]?=tG (uc (jg m CB) 184 (0,0))):=λW hW=>
  ⟨(hW.block N (by omega)).trans ((yp.block N (by omega)).trans wl),(hW.block (N+1) (by omega)).trans ((yp.block (N+1) (by omega)).trans ux),(hW.block (N+2) (by omega)).trans Cd⟩
 have ws:cj (aE N w W2):=B9.trans (yp.mono (by omega));have FF:=zH wl;have HN:=zH hN;have AH:cj (∀(W:World)(z:aw)(u:cA)(bs:bj bh),W.heap[N+1]?=tG (uc #[u] 27 (0,0))->aE N w W->(∀b∈bs,N+2<=b)->∀w',Ext (·∈bs) (W.setCell ⟨N+1,0,tM⟩ (Z U z)) w'->w'.cell? ⟨N+1,0,tM⟩=tG (Z U z)/\aE N w w'):=by
  intro W z u bs G A h3 w' y;have h4:=gj W (N+1) 0 _ _ (Z U z) G;have h5:=y.heap h4 (λh=>by have:=h3 _ h;omega);refine⟨by rw[bw _ _ _ _ _ _ h5];rfl, ?_⟩;have h6:Ext (N<=·) w (W.setCell ⟨N+1,0,tM⟩ (Z U z)):=(Ext.of_below A).trans (Ext.set1 _ _ _ _) (λj E=> .inl (by show N<=j;omega));exact(h6.trans y (λj E=> .inl (by show N<=j;have:=h3 _ E;omega))).below (by omega) (λk o=>o)
 have AI:=vq;simp only[jg,CB,mC] at AI;have Cl:=zH AI;clear B9 wl ux yp Cd vq AI
 (refine oC func53 rfl ?_
  simp only[ntmps53,List.size_toArray,eV,mC,Nat.reduceAdd,Nat.reduceSub,Array.replicate_succ,
   Array.replicate_zero,List.push_toArray,List.append_toArray,fN,ij])
 go_wp2_with fail
 go_step3
 go_upto_region 2 with(fail)
 rw[Cl.out];clear Cl;obtain⟨AK,yq,D1⟩:=vr.out W2 (aq _ _);have c0:=zR AK 0 (tU m.sA m.ss.length m.sC);have c1:=zR AK 1 (tU m.fA m.fs.length m.fC);have c2:=zR yq 0 (Z U 0);have c3:=ei _ _ 0 _ _ yq;have Cp:=zH yq;clear AK yq D1 b0 b1 hst
 by_cases g1:30<m.ss.length
 ·have ur:cj (R=2):=by unfold cj;rw[HR.out,cI (.inl g1)]
  clear HR
  go_wp2_with fail
  refine⟨[],rfl,by simp,by simp,Z U 2,λw' y=> ?_⟩;obtain⟨G,A⟩:=AH.out W2 2 _ [] Cp.out ws.out (by simp) w' y;exact⟨dw _ _ _ _ rfl G,by rw[ur.out],by first|exact A|(rw[HN.out];exact A)⟩
 by_cases g2:60<m.fs.length
 ·have ur:cj (R=2):=by unfold cj;rw[HR.out,cI (.inr g2)]
  clear HR
  go_wp2_with fail
  refine⟨[],rfl,by simp,by simp,Z U 2,λw' y=> ?_⟩;obtain⟨G,A⟩:=AH.out W2 2 _ [] Cp.out ws.out (by simp) w' y;exact⟨dw _ _ _ _ rfl G,by rw[ur.out],by first|exact A|(rw[HN.out];exact A)⟩
 have xf:cj (R=if dJ m=tP then 6
  else if (bV m).all m.known=tR then 5
  else if aV (codeF m) m.fs≠0 then aV (codeF m) m.fs
  else bU (decide (0<=m.fnIx dO)&&(match m.fs[(m.fnIx dO).toNat]? with
   |some g=>decide (g.c.par=0)&& !g.c.rp
   |none=>tR)) 9):=by unfold cj;rw[HR.out,bx (by omega)]
 clear HR;have AM:=zH (Aq m W2 (HM.out.mo.below (by rw[HN.out];exact ws.out)) HM.out.sl HM.out.fl HM.out.fd);obtain⟨tw,CA⟩:=zE (dJ m);rw[CA] at AM xf;have CC:cj (W2.heap[N]?=tG (uc m.cells 25 (0,0))):=(vr.out W2 (aq _ _)).1;clear CA;cases tw with
 |true=>
  have ur:cj (R=6):=by unfold cj;rw[xf.out,cI rfl]
  clear xf
  go_upto_region 4 with(fail)
  go_wp2_with (first
   |(refine cm rfl 25 _ rfl N rfl 25 m.cells (0,0) _ CC.out fx rfl (by kernel_rfl) ?_)
   |(go_at_call 94;refine AM.out.mono ?_;rintro e w3 ⟨rfl,vt⟩;have q1:=(vr.out w3 (vt.mono (by omega))).2.1;have c2:w3.cell? ⟨N+1,0,tM⟩=tG (Z U 0):=(bw _ _ _ _ _ _ q1).trans rfl;have c3:=ei _ _ 0 _ _ q1;have D2:=zH q1;have vc:=zH vt;clear vt q1))
  refine⟨[],rfl,by simp,by simp,Z U 6,λw' y=> ?_⟩;obtain⟨G,A⟩:=AH.out w3 6 _ [] D2.out (ws.out.trans (vc.out.mono (by omega))) (by simp) w' y;exact⟨dw _ _ _ _ rfl G,by rw[ur.out],by first|exact A|(rw[HN.out];exact A)⟩
 |false=>
  have AN:cj (R=if (bV m).all m.known=tR then 5
   else if aV (codeF m) m.fs≠0 then aV (codeF m) m.fs
   else bU (decide (0<=m.fnIx dO)&&(match m.fs[(m.fnIx dO).toNat]? with
    |some g=>decide (g.c.par=0)&& !g.c.rp
    |none=>tR)) 9):=by unfold cj;rw[xf.out];rfl
  clear xf
  go_upto_region 6 with(first
   |(refine cm rfl 25 _ rfl N rfl 25 m.cells (0,0) _ CC.out fx rfl (by kernel_rfl) ?_)
   |(go_at_call 94;refine AM.out.mono ?_;rintro e w3 ⟨rfl,vt⟩;have CD:aE (N+3) W2 w3:=vt.mono (by omega);have vc:=zH CD;clear vt CD))
  have FG:=vc.out.size;have CH:cj (w3.heap[N]?=tG (uc m.cells 25 (0,0))):=(vr.out w3 vc.out).1;have D3:cj (w3.heap[N+1]?=tG (uc #[Z U 0] 27 (0,0))):=(vr.out w3 vc.out).2.1;have CM:cj (w3.heap[N+2]?=tG (uc (jg m CB) 184 (0,0))):=(vr.out w3 vc.out).2.2;have D4:cj (aE N w w3):=ws.out.trans (vc.out.mono (by omega));obtain⟨B,hB⟩:=zE w3.heap.size;obtain⟨W5,vu⟩:=zE (w3.alloc (uc m.cells 25));have Ek:cj (ge am 95 #[ub m.cells] w3 λe w'=>e= ud (.func (.func 134) #[] #[tW (tG ⟨B,0,tM⟩)])/\w'=W5):=by
   rw[<-hB,<-vu];exact Av m w3
  have CN:Ext (λ_=>me) w3 W5:=by rw[<-vu];exact(Ext.refl _ _).alloc _
  have F0:W5.heap.size=B+1:=by rw[<-vu];simp[hB]
  have CT:W5.heap[B]?=tG (uc m.cells 25 (0,0)):=by rw[<-vu,<-hB];exact alloc_at _ _
  have C4:=iR vu hB;have yr:cj (aE N w W5):=D4.out.trans (C4.mono (by omega));have AS:cj (Iter am 134 #[tW (tG ⟨B,0,tM⟩)] wK (bV m) (nR N B) W5):=by
   have:=Au w W5 m B HM.out.mo (by rw[HN.out];exact yr.out) CT HM.out.fd HM.out.vl HM.out.sl HM.out.fl;rw[HN.out] at this;exact this
  have yv:=zH CN;clear CN C4 CT vu c0 c1 c2 c3
  go_upto_region 7 with(first
   |(refine cm rfl 25 _ rfl N rfl 25 m.cells (0,0) _ CH.out fx rfl (by kernel_rfl) ?_)
   |(go_at_call 95;refine Ek.out.mono ?_;rintro e w6 ⟨rfl,C5⟩;rw[C5];clear C5))
  have EV:N+1<W5.heap.size:=by omega
  have F1:N+3<=B:=by omega
  have AT:cj (∀(W:World)(z:aw)(bs:bj bh),W.heap[N+1]?=tG (uc #[Z U z] 27 (0,0))->Ext (N<=·) w W->(∀b∈bs,N+2<=b)->∀w',Ext (·∈bs) W w'->w'.cell? ⟨N+1,0,tM⟩=tG (Z U z)/\aE N w w'):=by
   intro W z bs G A h3 w' y;have h5:=y.heap G (λh=>by have:=h3 _ h;omega);refine⟨by rw[bw _ _ _ _ _ _ h5];rfl, ?_⟩;exact(A.trans y (λj E=> .inl (by show N<=j;have:=h3 _ E;omega))).below (by omega) (λk o=>o)
  obtain⟨XS,AW⟩:=zE (bV m);have A0:=zH AW;rw[AW] at AS;clear AW;refine pU (gf:=134) rfl func134 (by rfl) rfl AS.out (aq _ _) ?hRd (λ_=>rfl) (RI m N XS W5) (λc _ C W=>RX m N W5 c C W) (λvx C W W' h y=>h.next EV y) ?hIC ?hIx (λk=>k=N+1) ?h0 ?hround ?hdone ?hstop
  case hRd=>
   rintro k (h|rfl)
   ·omega
   ·omega
  case hIC=>
   intro vx C W h k o;rcases h.own with e|⟨b,t,e,G,A,h3⟩
   ·rw[e] at o
    have o:k=N+1:=o;subst o;exact⟨(br.1 h.res).1,λh=>by rcases h with h|h<;>omega⟩
   ·rw[e] at o
    rcases o with o|o
    ·subst o
     exact⟨(br.1 h.res).1,λh=>by rcases h with h|h<;>omega⟩
    ·subst o
     exact⟨(br.1 h3).1,λh=>by rcases h with h|h<;>omega⟩
  case hIx=>
   intro c vx C W W' h y;exact⟨h.ret,y.heap h.res (λq=>by omega),h.ext.trans y (λj E=> .inr E.1),h.bad,h.own⟩
  case h0=>exact⟨yv.out.heap D3.out (λh=>h),Ext.refl _ _,by simp,.inl rfl⟩
  case hround=>
   rintro l vx ⟨xb,xs⟩ C W hl hI xj;unfold wK;rw[FT];simp only[bp,cn,co];have HI:=zH hI;have E0:=zH xj;have A1:XS[vx.length]?=tG (xb,xs):=by
    obtain⟨t,ht⟩:=xj;rw[<-ht];simp
   have Ge:=hI.ext.size;obtain⟨b,hb⟩:=zE W.heap.size;obtain⟨W6,yy⟩:=zE (W.alloc (uc #[ua xb,tS xs] 32));have Gk:∀(c:eA cA),c.size=2->(dt ⟨b,0,tM⟩ [ua xb,tS xs] 0).run am (W.alloc (uc c 32))= .ok () W6:=λc hc=>by
    rw[<-yy,<-hb];exact cx (P:=am) W 32 c #[ua xb,tS xs] (by show _=tG 2;kernel_rfl) hc (by simp[ct])
   have C6:W6.heap[b]?=tG (uc #[ua xb,tS xs] 32 (0,0)):=by rw[<-yy,<-hb];exact alloc_at _ _
   have yW:Ext (λ_=>me) W W6:=by rw[<-yy];exact(Ext.refl _ _).alloc _
   have E2:cj (RI m N XS W5 vx (λk=>k=N+1\/k=b) W6):=by
    have h:=HI.out;exact⟨yW.heap h.res (λh=>h),h.ext.trans yW (λ_ h=>h.elim),h.kn,.inr ⟨b,_,rfl,A1,by omega,C6⟩⟩
   have E3:cj (Ext C W W6):=yW.mono (λ_ h=>h.elim);have E4:=zH A1;have GB:=zH yy;clear hI xj A1 C6 yW;obtain⟨F,hF⟩:∃F,F=i7.inRound l:=⟨_,rfl⟩
   have C7:cj (∀(n f:bh)(args:eA cA)(w:World)(R:Ending->World->Prop),ge am f args w R->CallsIn F n am f args w R):=by
    intro n f args w R h;rw[hF];exact CallsIn.inRound l (callsIn_wide.2 h)
   have GC:F.round=tG l:=by rw[hF];rfl
   have GE:∀f,F.fn f:=λf=>by rw[hF];trivial
   have GF:F.depth=tM:=by rw[hF];rfl
   rw[<-hF];clear hF
   gi_wp2
   refine⟨λk=>k=N+1\/k=b, ?_,E2.out,E3.out, ?_⟩
   ·rintro k (rfl|rfl)
    ·exact .inl HI.out.res_own
    ·exact .inr (by omega)
   intro W₂ vd E6;have ux:W₂.heap[b]?=tG (uc #[ua xb,tS xs] 32 (0,0)):=by
    rcases vd.own with e|⟨b',t',e,G,A,h3⟩
    ·have q:=congrFun e b
     simp at q;omega
    ·have q:=congrFun e b
     simp at q;rcases q with q|q
     ·omega
     ·subst q
      rw[E4.out] at G;obtain rfl:=cE G;exact h3
   have Dd:W₂.heap[N+2]?=tG (uc (jg m CB) 184 (0,0)):=vd.ext.heap (yv.out.heap CM.out (λh=>h)) (by omega);have Dg:aE N W5 W₂:=vd.ext.below (by omega) (λk o=>by omega);have E7:cj (aE N w W₂):=yr.out.trans Dg;have Fc:=ei _ _ 0 _ _ vd.res;have Fi:W₂.cell? ⟨N+1,0,tM⟩=tG (Z U 0):=(bw _ _ _ _ _ _ vd.res).trans rfl;have t0:W₂.cell? ⟨b,0,tM⟩=tG (ua xb):=(bw _ _ _ _ _ _ ux).trans rfl;have t1:W₂.cell? ⟨b,1,tM⟩=tG (tS xs):=(bw _ _ _ _ _ _ ux).trans rfl;obtain⟨y0,y1,y2,y3,y4,y5,y6,y7,y8,y9⟩:=jK.of Dd;simp only[CB,mC] at y2 y3 y4 y5 y6 y7 y8 y9;obtain⟨d,hd⟩:=zE (m.known (xb,xs));have Do:cj (zP 96 #[ub (jg m CB),ub #[ua xb,tS xs]] W₂ (ua d)):=by
    rw[<-hd];exact Aj m CB xb xs W₂ (HM.out.mo.below (by rw[HN.out];exact E7.out))
   have HD:=zH hd;have xo:=zH vd;have GO:=(br.1 ux).1;clear ux Dd Dg vd hd E6;cases d with
   |true=>
    gi_wp2_with (gi_at_call 96;refine(C7.out _ _ _ _ _ Do.out).mono ?_;rintro e K ⟨rfl,up⟩;have vf:=zH up;clear up)
    have h7:Ext (λ_=>me) W₂ K:=Ext.of_below_size vf.out;refine⟨λk=>k=N+1,λk o=> .inl (.inl o),⟨h7.heap xo.out.res (λh=>h),xo.out.ext.trans h7 (λ_ h=>h.elim),λt ht=> ?_,.inl rfl⟩,h7.mono (λ_ h=>h.elim)⟩;rcases cX.1 ht with h|h
    ·exact xo.out.kn t h
    ·simp at h;subst h;exact HD.out
   |false=>
    gi_wp2_with (gi_at_call 96;refine(C7.out _ _ _ _ _ Do.out).mono ?_;rintro e K ⟨rfl,up⟩;have z7:K.cell? ⟨N+1,0,tM⟩=tG (Z U 0):=(up.cell (p:=⟨N+1,0,tM⟩) (by show N+1<_;omega)).trans Fi;have f7:K.frozen? ⟨N+1,0,tM⟩=tR:=(up.frozen (p:=⟨N+1,0,tM⟩) (by show N+1<_;omega)).trans Fc;have vf:=zH up;clear up)
    have h7:Ext (λ_=>me) W₂ K:=Ext.of_below_size vf.out;have h8:Ext (·=N+1) K (K.setCell ⟨N+1,0,tM⟩ (Z U 5)):=Ext.set1 _ _ _ _;refine⟨λk=>k=N+1,λk o=> .inl (.inl o),⟨rfl, ?_,(xo.out.ext.trans h7 (λ_ h=>h.elim)).trans h8 (λj E=> .inl E), ?_,rfl⟩,(h7.mono (λ_ h=>h.elim)).trans h8 (λj E=> .inl (.inl E))⟩
    ·have:=gj K (N+1) 0 _ _ (Z U 5) (h7.heap xo.out.res (λh=>h))
     simpa using this
    ·rw[A0.out,m6]
     exact⟨(xb,xs),E0.out.subset (by simp),by rw[HD.out];simp⟩
  case hstop=>
   intro D c vx C W hD A2 xj Fk vy;obtain⟨rfl,uv,Ds,DA,Fl⟩:=Fk;have ur:cj (R=5):=by unfold cj;rw[AN.out,cI DA]
   have zc:=zH vy;have vh:cj (Ext (N<=·) w W):=(Ext.of_below yr.out).trans (Ds.mono (M':=(N<=·)) (λk o=>by show N<=k;omega)) (λj E=> .inl E);have A3:=zH uv;clear uv Ds DA Fl vy xj
   go_wp2_with fail
   refine⟨[D],rfl,by simp,by intro b hb;simp at hb;subst hb;exact zc.out,Z U 5,λw' y=> ?_⟩;obtain⟨G,A⟩:=AT.out W 5 [D] A3.out vh.out (by simp;omega) w' y;exact⟨dw _ _ _ _ rfl G,by rw[ur.out],by first|exact A|(rw[HN.out];exact A)⟩
  case hdone=>
   intro D C W hD A2 hI vy;have DB:cj (∀t∈bV m,m.known t=tP):=by rw[A0.out];exact hI.kn
   have zj:cj (R=if aV (codeF m) m.fs≠0 then aV (codeF m) m.fs
    else bU (decide (0<=m.fnIx dO)&&(match m.fs[(m.fnIx dO).toNat]? with
     |some g=>decide (g.c.par=0)&& !g.c.rp
     |none=>tR)) 9):=by
    unfold cj;rw[AN.out,bx];rw[gA.2 DB.out];decide
   have zc:=zH vy;have vh:cj (Ext (N<=·) w W):=(Ext.of_below yr.out).trans (hI.ext.mono (M':=(N<=·)) (λk o=>by show N<=k;omega)) (λj E=> .inl E);have A3:=zH hI.res;have A4:cj (W.heap[N]?=tG (uc m.cells 25 (0,0))):=hI.ext.heap (yv.out.heap CH.out (λh=>h)) (by omega);have Fm:cj (W.heap[N+2]?=tG (uc (jg m CB) 184 (0,0))):=hI.ext.heap (yv.out.heap CM.out (λh=>h)) (by omega);have GP:N+3<=W.heap.size:=by have:=hI.ext.size;omega
   have GS:cj (aE N w W):=vh.out.below (by omega) (λk o=>o);have GT:cj (D<W.heap.size):=(br.1 vy).1;have m0:W.cell? ⟨N,0,tM⟩=tG (tU m.sA m.ss.length m.sC):=(bw _ _ _ _ _ _ A4.out).trans rfl;have m1:W.cell? ⟨N,1,tM⟩=tG (tU m.fA m.fs.length m.fC):=(bw _ _ _ _ _ _ A4.out).trans rfl;have GW:=zH A2;clear hI vy A2 AN AS A0
   go_wp2_with fail
   go_step3
   go_wp2_with fail
   go_loopw [34] (λc wr=>∃(j:bh) (g:Fn),j<=m.fs.length/\c= Z U (j:aw)/\(∀f∈m.fs.take j,codeF m f=0)/\Ext (λk=>k=N+1\/k=N+2) W wr/\wr.heap[N+1]?=tG (uc #[Z U 0] 27 (0,0))/\wr.heap[N+2]?=tG (uc (jg m g) 184 (0,0))) (λc _=>m.fs.length-(de c).toNat)
   case atStart=>exact⟨0,CB,cN _,rfl,by simp,Ext.refl _ _,A3.out,Fm.out⟩
   case round=>
    clear m0 m1;obtain⟨j,g,E,rfl,hz,y,uv,xp⟩:=hrel;have HZ:=zH hz;have HX:=zH y;have Fo:=zH uv;have G4:=zH xp;have Hb:=y.size;have A5:cj (aE N w wr):=(vh.out.trans (y.mono (M':=(N<=·)) (λk o=>by show N<=k;omega)) (λj E=> .inl E)).below (by omega) (λk o=>o)
    by_cases A6:j<m.fs.length
    ·obtain⟨f,hf⟩:∃f,m.fs[j]?=tG f:=⟨_,ap A6⟩
     have zp:=cd hf;obtain⟨fb,vm,xt,Bk,we⟩:=HM.out.mo.frow (by intro e;rw[e] at A6;simp at A6);have zs:fb<N:=by omega
     have DE:cj (∀k u,f.cells.toList[k]?=tG u->wr.cell? ((⟨fb,vm+j*8,tM⟩:fS).add k)=tG u):=λk u hu=>by
      rw[cY,A5.out.cell (p:=⟨fb,_,tM⟩) zs];exact we j f hf k u hu
     obtain⟨P,hP⟩:=zE wr.heap.size;obtain⟨W3,xF⟩:=zE (wr.alloc (uc f.cells 38));have Hc:∀(c:eA cA),c.size=8->(dt ⟨P,0,tM⟩ f.cells.toList 0).run am (wr.alloc (uc c 38))= .ok () W3:=λc hc=>by
      rw[<-xF,<-hP];exact cx (P:=am) wr 38 c f.cells (by show _=tG 8;kernel_rfl) hc (gm f)
     have zv:Ext (λ_=>me) wr W3:=by rw[<-xF];exact(Ext.refl _ _).alloc _
     have DG:cj (W3.heap[P]?=tG (uc f.cells 38 (0,0))):=by unfold cj;rw[<-xF,<-hP];exact alloc_at _ _
     have An:=zv.heap xp (λh=>h);have Hh:W3.heap.size=P+1:=by rw[<-xF];simp[hP]
     obtain⟨W4,At⟩:=zE (W3.setCells (N+2) 2 f.cells.toList);have Hi:(dt ⟨N+2,2,tM⟩ f.cells.toList 0).run am W3= .ok () W4:=by
      rw[<-At];refine run_storeCells_cells (P:=am) (N+2) 2 f.cells.toList 0 W3 (λk o=> ?_) (λk o=>ei _ _ _ _ _ An) (λv hv=> ?_)
      ·rw[bw _ _ _ _ _ _ An]
       have:k<8:=o;rw[mx (by show 2+0+k<10;omega)];rfl
      ·have:=gm f
       rw[<-ly,gA] at this;exact this v hv
     have DH:W4.heap[N+2]?=tG (uc (jg m f) 184 (0,0)):=by
      rw[<-At,<-CE m g f];exact o8 _ _ _ _ An
     have Bm:Ext (·=N+2) W3 W4:=by rw[<-At];exact(World.keptBut_ext (N+2) _ _ _)
     have DM:W4.heap[N+1]?=tG (uc #[Z U 0] 27 (0,0)):=Bm.heap (zv.heap uv (λh=>h)) (by omega);have Ax:cj (Ext (λk=>k=N+1\/k=N+2) W W4):=(HX.out.trans zv (λ_ h=>h.elim)).trans Bm (λk o=> .inl (.inr o));have Fr:cj (aE N w W4):=(vh.out.trans (Ax.out.mono (M':=(N<=·)) (λk o=>by show N<=k;omega)) (λj E=> .inl E)).below (by omega) (λk o=>o);have Bs:=zH DH;have DO:=zH DM;have Hj:=Ax.out.size;obtain⟨z,By⟩:=zE (codeF m f);have DP:cj (zP 97 #[ub (jg m f)] W4 (Z U z)):=by
      rw[<-By];have vp:=HM.out.mo.below (by rw[HN.out];exact Fr.out);exact Cw m f W4 ⟨vp,vp.fin f zp,HM.out.al f zp,λv hv=>DB.out _ (by
       obtain⟨h0,G⟩:=eT.1 hv;obtain⟨k,rfl⟩:∃k:bh,v=(k:aw):=⟨v.toNat,by omega⟩
       obtain⟨x,y⟩:∃x,f.vs[k]?=tG x:=⟨_,ap (by omega)⟩
       have e:ay f.vs (k:aw)=x.ty:=by unfold ay;rw[eW,y]
       rw[e];unfold bV;exact cX.2 (.inr (kq.2 ⟨f,zp,ie _ (gi.2 ⟨x,cd y,rfl⟩)⟩)))⟩
     have BE:=zH By;have HF:=zH hf;have Hk:(j:aw)<(m.fs.length:aw):=by omega
     rw[xt];clear hz y uv xp hf zp Bk we xF zv An At DH Bm DM By
     by_cases AD:z=0
     ·subst AD
      go_wp2_with (first
       |(refine au rfl 38 _ rfl ⟨fb,vm+j*8,tM⟩ rfl f.cells _ DE.out cQ rfl (by kernel_rfl) ?_)
       |(refine cm rfl 38 _ rfl P rfl 38 f.cells (0,0) _ DG.out cQ rfl (by kernel_rfl) ?_)
       |(refine cm rfl 184 _ rfl (N+2) rfl 184 (jg m f) (0,0) _ Bs.out cM rfl (by kernel_rfl) ?_)
       |(go_at_call 97;refine DP.out.mono ?_;rintro e K ⟨rfl,up⟩;have q7:=kP up DO.out;have z7:K.cell? ⟨N+1,0,tM⟩=tG (Z U 0):=(bw _ _ _ _ _ _ q7).trans rfl;have f7:=ei _ _ 0 _ _ q7;have n7:=(br.1 q7).1;have BT:=zH q7;have vf:=zH up;clear up q7))
      have wg:Ext (·=N+1) K (K.setCell ⟨N+1,0,tM⟩ (Z U 0)):=Ext.set1 _ _ _ _;have AE:Ext (λ_=>me) W4 K:=Ext.of_below_size vf.out;refine⟨⟨j+1,f,by omega,by go_num,dL (p:=λf=>codeF m f=0) HZ.out HF.out BE.out,(Ax.out.trans AE (λ_ h=>h.elim)).trans wg (λk o=> .inl (.inl o)), ?_,wg.heap (AE.heap Bs.out (λh=>h)) (by omega)⟩,by simp[de];omega⟩;have:=gj K (N+1) 0 _ _ (Z U 0) BT.out;simpa using this
     ·have ur:cj (R=z):=by
       unfold cj;have e:=kw (f:=codeF m) HZ.out HF.out (by rw[BE.out];exact AD);rw[zj.out,e,BE.out,cI AD]
      have Hn:(z==0)=tR:=by rw[cT];exact AD
      go_wp2_with (first
       |(refine au rfl 38 _ rfl ⟨fb,vm+j*8,tM⟩ rfl f.cells _ DE.out cQ rfl (by kernel_rfl) ?_)
       |(refine cm rfl 38 _ rfl P rfl 38 f.cells (0,0) _ DG.out cQ rfl (by kernel_rfl) ?_)
       |(refine cm rfl 184 _ rfl (N+2) rfl 184 (jg m f) (0,0) _ Bs.out cM rfl (by kernel_rfl) ?_)
       |(go_at_call 97;refine DP.out.mono ?_;rintro e K ⟨rfl,up⟩;have q7:=kP up DO.out;have z7:K.cell? ⟨N+1,0,tM⟩=tG (Z U 0):=(bw _ _ _ _ _ _ q7).trans rfl;have f7:=ei _ _ 0 _ _ q7;have n7:=(br.1 q7).1;have BT:=zH q7;have vf:=zH up;clear up q7))
      have wg:Ext (·=N+1) K ((K.setCell ⟨N+1,0,tM⟩ (Z U z)).setCell ⟨N+1,0,tM⟩ (Z U z)):=(Ext.set1 _ _ _ _).trans (Ext.set1 _ _ _ _) (λj E=> .inl E);have AE:Ext (λ_=>me) W4 K:=Ext.of_below_size vf.out;have xT:Ext (λk=>k=N+1\/k=N+2) W ((K.setCell ⟨N+1,0,tM⟩ (Z U z)).setCell ⟨N+1,0,tM⟩ (Z U z)):=(Ax.out.trans AE (λ_ h=>h.elim)).trans wg (λk o=> .inl (.inl o));have BY:((K.setCell ⟨N+1,0,tM⟩ (Z U z)).setCell ⟨N+1,0,tM⟩ (Z U z)).heap[N+1]?=tG (uc #[Z U z] 27 (0,0)):=by
       have q1:=gj K (N+1) 0 _ _ (Z U z) BT.out;have q2:=gj _ (N+1) 0 _ _ (Z U z) q1;simpa using q2
      refine⟨[D],rfl,by simp,by intro b hb;simp at hb;subst hb;exact xT.heap zc.out (by omega),Z U z,λw' y=> ?_⟩;obtain⟨G,A⟩:=AT.out _ z [D] BY (vh.out.trans (xT.mono (M':=(N<=·)) (λk o=>by show N<=k;omega)) (λj E=> .inl E)) (by simp;omega) w' y;exact⟨dw _ _ _ _ rfl G,by rw[ur.out],by first|exact A|(rw[HN.out];exact A)⟩
    ·have Ft:j=m.fs.length:=by omega
     subst Ft;rw[cR] at hz;have yb:cj (R=bU (decide (0<=m.fnIx dO)&&(match m.fs[(m.fnIx dO).toNat]? with
      |some g=>decide (g.c.par=0)&& !g.c.rp
      |none=>tR)) 9):=by
      unfold cj;rw[zj.out,iM hz,bx (by simp)]
     have z0:wr.cell? ⟨N+1,0,tM⟩=tG (Z U 0):=(bw _ _ _ _ _ _ uv).trans rfl;have f0:=ei _ _ 0 _ _ uv;have AF:wr.heap[N]?=tG (uc m.cells 25 (0,0)):=y.heap A4.out (by omega);have m0:wr.cell? ⟨N,0,tM⟩=tG (tU m.sA m.ss.length m.sC):=(bw _ _ _ _ _ _ AF).trans rfl;have m1:wr.cell? ⟨N,1,tM⟩=tG (tU m.fA m.fs.length m.fC):=(bw _ _ _ _ _ _ AF).trans rfl;have vp:=HM.out.mo.below (by rw[HN.out];exact A5.out);obtain⟨kx,wj⟩:=zE (m.fnIx dO);rw[wj] at yb;have yd:cj (zP 98 #[ub m.cells,tS ⟨#[109,97,105,110]⟩] wr (Z U kx)):=by
      rw[<-wj];exact Ah m dO wr vp.nf vp.frow
     have B5:cj (∀(J:World)(z:aw),aE wr.heap.size wr J->(J.setCell ⟨N+1,0,tM⟩ (Z U z)).heap[D]?=tG (.deferred (tG []))/\∀w',Ext (·∈[D]) (J.setCell ⟨N+1,0,tM⟩ (Z U z)) w'->w'.cell? ⟨N+1,0,tM⟩=tG (Z U z)/\aE N w w'):=by
      intro J z ue;have DQ:Ext (λ_=>me) wr J:=Ext.of_below_size ue;have wg:Ext (·=N+1) J (J.setCell ⟨N+1,0,tM⟩ (Z U z)):=Ext.set1 _ _ _ _;have xT:Ext (λk=>k=N+1\/k=N+2) W (J.setCell ⟨N+1,0,tM⟩ (Z U z)):=(HX.out.trans DQ (λ_ h=>h.elim)).trans wg (λk o=> .inl (.inl o));have BY:=gj J (N+1) 0 _ _ (Z U z) (DQ.heap Fo.out (λh=>h));refine⟨xT.heap zc.out (by omega),λw' y=> ?_⟩;exact AT.out _ z [D] (by simpa using BY) (vh.out.trans (xT.mono (M':=(N<=·)) (λk o=>by show N<=k;omega)) (λj E=> .inl E)) (by simp;omega) w' y
     have Hp:=zH uv;have wk:N+1<wr.heap.size:=by omega
     rcases nQ (λf:Fn=>f.c.nm==dO) m.fs with e|⟨k,f,e,hf,_⟩
     ·have B6:kx= -1:=by rw[<-wj];exact e
      subst B6;have ur:cj (R=9):=by unfold cj;rw[yb.out];rfl
      clear hz y uv xp wj AF vp zj yb e
      go_wp2_with (first
       |(go_at_call 98;refine yd.out.mono ?_;rintro e J ⟨rfl,ue⟩;have z8:J.cell? ⟨N+1,0,tM⟩=tG (Z U 0):=(ue.cell (p:=⟨N+1,0,tM⟩) wk).trans z0;have f8:J.frozen? ⟨N+1,0,tM⟩=tR:=(ue.frozen (p:=⟨N+1,0,tM⟩) wk).trans f0;have ye:=zH ue;clear ue)
       |(go_at_call 99;refine(aD _ _ _).mono ?_;rintro e w9 ⟨rfl,rfl⟩))
      obtain⟨h3,h4⟩:=B5.out J 9 ye.out;refine⟨[D],rfl,by simp,by intro b hb;simp at hb;subst hb;exact h3,Z U 9,λw' y=> ?_⟩;obtain⟨G,A⟩:=h4 w' y;exact⟨dw _ _ _ _ rfl G,by rw[ur.out],by first|exact A|(rw[HN.out];exact A)⟩
     ·have B6:kx=(k:aw):=by rw[<-wj];exact e
      subst B6;have DS:=(bl.1 hf).1;have Hs:(k:aw)<(m.fs.length:aw):=by omega
      have ur:cj (R=bU (decide (f.c.par=0)&& !f.c.rp) 9):=by
       unfold cj;rw[yb.out,eW,hf,cV (by omega)];rfl
      obtain⟨fb,vm,xt,Bk,we⟩:=HM.out.mo.frow (by intro e;rw[e] at DS;simp at DS);have zs:fb<N:=by omega
      have B7:cj (∀W8,aE wr.heap.size wr W8->W8.cell? ⟨fb,vm+k*8+1,tM⟩=tG (Z U f.c.par)/\W8.cell? ⟨fb,vm+k*8+3,tM⟩=tG (ua f.c.rp)/\W8.cell? ⟨N,1,tM⟩=tG (tU (tG ⟨fb,vm,tM⟩) m.fs.length m.fC)/\N<W8.heap.size/\fb<W8.heap.size):=by
       intro W8 h8;have D0:aE N w W8:=A5.out.trans (h8.mono (by omega));have Hv:=h8.size;refine⟨?_, ?_, ?_,by omega,by omega⟩
       ·rw[D0.cell (p:=⟨fb,_,tM⟩) zs];exact we k f hf 1 _ rfl
       ·rw[D0.cell (p:=⟨fb,_,tM⟩) zs];exact we k f hf 3 _ rfl
       ·rw[h8.cell (p:=⟨N,1,tM⟩) (by show N<_;omega),<-xt];exact m1
      simp only[Mo.cells] at yd;rw[xt] at yd m1;clear hz y uv xp wj AF vp zj yb e Bk we hf xt
      by_cases hp:f.c.par=0
      ·rw[hp] at B7
       have B8:cj (R=bU (!f.c.rp) 9):=by unfold cj;rw[ur.out,hp];rfl
       go_wp2_with (first
        |(go_at_call 98;refine yd.out.mono ?_;rintro e J ⟨rfl,ue⟩;have z8:J.cell? ⟨N+1,0,tM⟩=tG (Z U 0):=(ue.cell (p:=⟨N+1,0,tM⟩) wk).trans z0;have f8:J.frozen? ⟨N+1,0,tM⟩=tR:=(ue.frozen (p:=⟨N+1,0,tM⟩) wk).trans f0;obtain⟨u1,u2,u3,u4,u5⟩:=B7.out J ue;have ye:=zH ue;clear ue)
        |(go_at_call 99;refine(aD _ _ _).mono ?_;rintro e w9 ⟨rfl,rfl⟩))
       obtain⟨h3,h4⟩:=B5.out J (bU (!f.c.rp) 9) ye.out;refine⟨[D],rfl,by simp,by intro b hb;simp at hb;subst hb;exact h3,Z U (bU (!f.c.rp) 9),λw' y=> ?_⟩;obtain⟨G,A⟩:=h4 w' y;exact⟨dw _ _ _ _ rfl G,by rw[B8.out],by first|exact A|(rw[HN.out];exact A)⟩
      ·have B8:cj (R=9):=by unfold cj;rw[ur.out,cv hp];rfl
       have Hx:(f.c.par==0)=tR:=by rw[cT];exact hp
       go_wp2_with (first
        |(go_at_call 98;refine yd.out.mono ?_;rintro e J ⟨rfl,ue⟩;have z8:J.cell? ⟨N+1,0,tM⟩=tG (Z U 0):=(ue.cell (p:=⟨N+1,0,tM⟩) wk).trans z0;have f8:J.frozen? ⟨N+1,0,tM⟩=tR:=(ue.frozen (p:=⟨N+1,0,tM⟩) wk).trans f0;obtain⟨u1,u2,u3,u4,u5⟩:=B7.out J ue;have ye:=zH ue;clear ue)
        |(go_at_call 99;refine(aD _ _ _).mono ?_;rintro e w9 ⟨rfl,rfl⟩))
       obtain⟨h3,h4⟩:=B5.out J 9 ye.out;refine⟨[D],rfl,by simp,by intro b hb;simp at hb;subst hb;exact h3,Z U 9,λw' y=> ?_⟩;obtain⟨G,A⟩:=h4 w' y;exact⟨dw _ _ _ _ rfl G,by rw[B8.out],by first|exact A|(rw[HN.out];exact A)⟩
end
end Go.Proofs.YtjomgckjhcfbgaaGreat
