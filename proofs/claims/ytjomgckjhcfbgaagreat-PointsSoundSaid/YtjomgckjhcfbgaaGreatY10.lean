/- Walks. -/
import Derived.Laws.IdiomCopy
import Derived.Sort.LoopGhostIn
import Derived.Sort.QuietIn
import Derived.Test.YtjomgckjhcfbgaaGreatY9
set_option maxRecDepth 100000
set_option maxHeartbeats 64000000
set_option linter.all false
namespace Go.Proofs.YtjomgckjhcfbgaaGreat
open Go.RowKit
open Go.Proofs.Tryz renaming prog→ac,underlying184→cI,underlying38→cQ,underlying25→fk,underlying90→ot
open _root_.List renaming getElem?_eq_getElem→am,getElem?_eq_some_iff→ap,setIfInBounds_toArray→aw,set_cons_zero→bt,set_cons_succ→bw,mem_of_getElem?→cf,mem_append→cT,take_length→de,mem_map→dy,flatMap_cons→el,mem_flatMap→em,drop_eq_getElem_cons→eR,nil_append→fc,map_append→fL,append_assoc→fR,length_cons→fS,all_eq_true→js,cons_append→jt,any_eq_true→kq,any_eq_false→lz,map_cons→lP,append_nil→mj,length_nil→mp,all_eq_false→m9,mem_cons_of_mem→pn
open Go.RowKit.Below renaming refl→aq,mono→pw
open _root_ renaming ByteArray→aE,List→bm,Int→bp,Nat→bx,if_neg→cE,decide_eq_false→cL,if_pos→cR,Array→da,beq_eq_false_iff_ne→dp,decide_eq_true→ef,Option→eA,absurd→fW,False→mb
open Go.RowKit renaming Below→bh,Hid→cm
open _root_.Array renaming getElem?_eq_some_iff→bj,all_toList→ld
open Go renaming cell_of_row→cc,Value→cd,wpList_load_row→ci,run_storeCells_new→ct,storeCells→dr,bodyPost_ret→dv,maxLen→dT,frozen_of_row→eq,heap_setCell_same→eL,results_none→fa,Calls→gd,TypeId→gx,wpListIn_nil→ju,bodyPost_end→kA,wpIn_region_lit→m8,wpIn_wide→pT,results→tz
open _root_.Nat renaming le_refl→ce,zero_le→cN,le_trans→cY
open Go.Value renaming oneCell'→cj,string→tM,slice→tP,pointer→tR,bool→tU,agg→tW,int→Z
open _root_.Option.some renaming inj→cD
open _root_.Int renaming toNat_natCast→cP
open Go.Exit renaming inBlock→db,noGoto_ret→iz
open Go.Addr renaming add_lit→dc
open Go.Act renaming put→dk
open Go.Fence renaming wide→ge
open _root_.Option renaming some→tB,none→tD
open _root_.Bool renaming true→tE,false→tG
open Go.Obj renaming cells→ua
open Go.Ending renaming returned→ub
open Go.IntKind renaming i64→U
open Tryz
theorem oM (s:St):(s.cells.all λx=>x.oneCell')=tE:=by
 rw[<-ld];simp[St.cells,DZ.cells,cj]
theorem oN (s:Fd):(s.cells.all λx=>x.oneCell')=tE:=by
 rw[<-ld];simp[Fd.cells,cj]
theorem fH (f:Fn):(f.cells.all λx=>x.oneCell')=tE:=by
 rw[<-ld];simp[Fn.cells,qp.cells,cj]
theorem jP {α:Type}{l:bm α}{j:bx}{x:α}(f:α->aE)(h:l[j]?=tB x):(l.take (j+1)).map f=(l.take j).map f++[f x]:=by
 rw[dL h,fL];rfl
theorem gD.grown {w w':World}{B base:bx}{v:cd}{xs:bm aE}(d:gD w base v xs)(f:w.grownBy w' v.ownBlock)(h:B<=base)(q:B<=w.heap.size):bh B w w':=
 (aq B w).grown f q (λk u=>cY h (d.lt k u).1)
theorem zJ (m:Mo)(w:World)(h:m.inn w)(hs:m.ss.length<=90000)(hf:m.fs.length<=90000)(ws:∀s∈m.ss,s.fs.length<=90000):
  zP 94 #[tW m.cells] w (tU (dz m)):=by
 have HM:=zH h;have Bm:=zH ws;obtain⟨R,hR⟩:=zE (dz m);have HR:cm (R=((m.ss.any λs=>decide (¬(s.fs.map Fd.nm).Nodup))||decide (¬(m.ss.map λs=>s.s.nm).Nodup)||decide (¬(m.fs.map λf=>f.c.nm).Nodup))):=hR.symm;rw[hR];clear h ws hR;obtain⟨N,hN⟩:=zE w.heap.size;obtain⟨W1,xp⟩:=zE (w.alloc (ua m.cells 25));have AD:=iV xp hN;have AE:W1.heap.size=N+1:=by rw[<-xp];simp[hN]
 have AF:W1.heap[N]?=tB (ua m.cells 25 (0,0)):=by rw[<-xp,<-hN];exact alloc_at _ _
 have HK:cm (∀W,bh (N+1) W1 W->W.cell? ⟨N,0,tD⟩=tB (tP m.sA m.ss.length m.sC)/\W.cell? ⟨N,1,tD⟩=tB (tP m.fA m.fs.length m.fC)/\N<W.heap.size):=λW hW=>by
  have q:=(hW.block N (by omega)).trans AF;exact⟨by rw[cc _ _ _ _ _ _ q];rfl,by rw[cc _ _ _ _ _ _ q];rfl,(bj.1 q).1⟩
 have xr:=zH AD;have HN:=zH hN;obtain⟨k0,k1,CM⟩:=HK.out W1 (aq _ _);clear AD AF;go_enter func94,ntmps94
 go_wp2_with fail
 go_loopw [3,15] (λv c wr=>∃(j:bx) (ao:eA Addr) (cap:bx),j<=m.ss.length/\c= Z U (j:bp)/\v= tP ao ((m.ss.take j).map λs=>s.s.nm).length cap/\gD wr (N+1) v ((m.ss.take j).map λs=>s.s.nm)/\(∀s∈m.ss.take j,(s.fs.map Fd.nm).Nodup)/\bh (N+1) W1 wr) (λ_ c _=>m.ss.length-(intOf c).toNat)
 case atStart=>exact⟨0,tD,0,cN _,rfl,rfl,gD.nil _ _,by simp,aq _ _⟩
 case round=>
  clear k0 k1;obtain⟨j,ao,cap,hj,rfl,rfl,xt,xF,hb⟩:=hrel;have HB:=zH hb;have vp:=zH xt;have wx:=zH xF;obtain⟨k0,k1,CN⟩:=HK.out wr hb;have By:N+1<=wr.heap.size:=by omega
  have xT:cm (bh N w wr):=xr.out.trans (hb.mono (by omega))
  by_cases ya:j<m.ss.length
  ·obtain⟨s,xf⟩:∃s,m.ss[j]?=tB s:=⟨_,am ya⟩
   have vr:=cf xf;have xj:=HM.out.sin s vr;obtain⟨b0,AG,hA,BE,AH⟩:=HM.out.srow (by intro e;rw[e] at ya;simp at ya);have BT:b0<N:=by omega
   have BY:cm (∀k u,s.cells.toList[k]?=tB u->wr.cell? ((⟨b0,AG+j*4,tD⟩:Addr).add k)=tB u):=λk u hu=>by
    rw[dc,xT.out.cell (p:=⟨b0,_,tD⟩) BT];exact AH j s xf k u hu
   obtain⟨M,hM⟩:=zE wr.heap.size;obtain⟨W2,vq⟩:=zE (wr.alloc (ua s.cells 90));have hst:∀(c:da cd),c.size=4->(dr ⟨M,0,tD⟩ s.cells.toList 0).run ac (wr.alloc (ua c 90))= .ok () W2:=λc hc=>by
    rw[<-vq,<-hM];exact ct (P:=ac) wr 90 c s.cells (by show _=tB 4;kernel_rfl) hc (oM s)
   have AI:W2.heap[M]?=tB (ua s.cells 90 (0,0)):=by rw[<-vq,<-hM];exact alloc_at _ _
   have CT:W2.heap.size=M+1:=by rw[<-vq];simp[hM]
   have yb:cm (bh (N+1) W1 W2):=by rw[<-vq];exact HB.out.alloc By _
   have AK:cm (gD W2 (N+1) (tP ao ((m.ss.take j).map λs=>s.s.nm).length cap) ((m.ss.take j).map λs=>s.s.nm)):=by rw[<-vq];exact vp.out.below ((aq _ _).alloc (ce _) _)
   have yd:cm (∀W,bh (M+1) W2 W->W.cell? ⟨M,0,tD⟩=tB (tM s.s.nm)/\W.cell? ⟨M,1,tD⟩=tB (tP s.s.fA s.fs.length s.s.fC)/\M<W.heap.size):=λW hW=>by
    have q:=(hW.block M (by omega)).trans AI;exact⟨by rw[cc _ _ _ _ _ _ q];rfl,by rw[cc _ _ _ _ _ _ q,<-xj.nf];rfl,(bj.1 q).1⟩
   obtain⟨m0,m1,C3⟩:=yd.out W2 (aq _ _);have B4:cm (aK Fd.cells 5 w w.heap.size s.s.fA s.fs):=xj.row;have B5:cm (∀f∈s.fs,f.nm.size<=dT):=xj.fnm;have ws:=Bm.out s vr;have ye:=zH xf;have C4:(j:bp)<(m.ss.length:bp):=by omega
   obtain⟨A,ue⟩:=zE ((m.ss.take j).map λs=>s.s.nm);have yi:A.length<=90000:=by rw[<-ue];simp;omega
   rw[ue] at AK⊢;have B6:=zH ue;rw[hA] at k0⊢;clear hb xt xF vp vr xj BE AH xf AI vq ue
   go_upto_region 7 with(refine aG rfl 90 _ rfl ⟨b0,AG+j*4,tD⟩ rfl s.cells _ BY.out ot rfl (by kernel_rfl) ?_)
   go_loopw [7,22] (λv c wq=>∃(q:bx) (ao:eA Addr) (cap:bx),q<=s.fs.length/\c= Z U (q:bp)/\v= tP ao ((s.fs.take q).map Fd.nm).length cap/\gD wq (M+1) v ((s.fs.take q).map Fd.nm)/\bh (M+1) W2 wq) (λ_ c _=>s.fs.length-(intOf c).toNat)
   case atStart=>exact⟨0,tD,0,cN _,rfl,rfl,gD.nil _ _,aq _ _⟩
   case round=>
    obtain⟨q,ur,uv,hq,rfl,rfl,vd,G⟩:=hrel;have vf:=zH G;have J:=zH vd;have vu:M+1<=wr.heap.size:=by have:=G.size;omega
    clear m0 m1 k0 k1;obtain⟨m0,m1,_⟩:=yd.out _ G
    by_cases vh:q<s.fs.length
    ·obtain⟨f,vi⟩:∃f,s.fs[q]?=tB f:=⟨_,am vh⟩
     obtain⟨fb,vx,yk,yp,vy⟩:=B4.out (by intro e;rw[e] at vh;simp at vh);have yq:fb<N:=by omega
     have yr:cm (bh N w wr):=xr.out.trans ((yb.out.trans (G.mono (by omega))).mono (by omega));have yv:cm (∀k u,f.cells.toList[k]?=tB u->wr.cell? ((⟨fb,vx+q*5,tD⟩:Addr).add k)=tB u):=λk u hu=>by
      rw[dc,yr.out.cell (p:=⟨fb,_,tD⟩) yq];exact vy q f vi k u hu
     obtain⟨P,hP⟩:=zE wr.heap.size;obtain⟨W3,D⟩:=zE (wr.alloc (ua f.cells 92));have B8:∀(c:da cd),c.size=5->(dr ⟨P,0,tD⟩ f.cells.toList 0).run ac (wr.alloc (ua c 92))= .ok () W3:=λc hc=>by
      rw[<-D,<-hP];exact ct (P:=ac) wr 92 c f.cells (by show _=tB 5;kernel_rfl) hc (oN f)
     have we:W3.heap[P]?=tB (ua f.cells 92 (0,0)):=by rw[<-D,<-hP];exact alloc_at _ _
     have yy:W3.heap.size=P+1:=by rw[<-D];simp[hP]
     have p0:=zR we 0 (tM f.nm);have yW:cm (bh (M+1) W2 W3):=by rw[<-D];exact vf.out.alloc vu _
     have vj:cm (gD W3 (M+1) (tP ur ((s.fs.take q).map Fd.nm).length uv) ((s.fs.take q).map Fd.nm)):=by rw[<-D];exact J.out.below ((aq _ _).alloc (ce _) _)
     have zc:=zH vi;have B9:(q:bp)<(s.fs.length:bp):=by omega
     obtain⟨XQ,ux⟩:=zE ((s.fs.take q).map Fd.nm);have zd:XQ.length<=90000:=by rw[<-ux];simp;omega
     have zj:=zH ux;rw[yk];rw[ux] at vj⊢;clear G vd J vi yp vy we D ux
     go_wp2_with (first
      |(refine aG rfl 92 _ rfl ⟨fb,vx+q*5,tD⟩ rfl f.cells _ yv.out underlying92 rfl (by kernel_rfl) ?_)
      |(at_builtin;refine gL rfl (.tmp 26) (.tmp 29) rfl (M+1) (tP ur XQ.length uv) XQ rfl (vj.out.below ((aq _ _).alloc (ce _) _)) ⟨P+1,0,tD⟩ f.nm 1 rfl ?c0 zd ?c1 ?_))
     case c0=>rw[<-yy,World.cell?_alloc_new];rfl
     case c1=>rw[World.size_alloc];omega
     intro v5 w5 va wg;obtain⟨X5,vm⟩:=zE (XQ++[f.nm]);rw[vm] at va;obtain⟨wi,wj,rfl⟩:=va.isSlice;have wk:cm (X5=(s.fs.take (q+1)).map Fd.nm):=by unfold cm;rw[jP Fd.nm zc.out,zj.out,vm]
     have zp:cm (bh (M+1) W2 w5):=(yW.out.alloc (by omega) _).trans (gD.grown (vj.out.below ((aq _ _).alloc (ce _) _)) wg (ce _) (by simp;omega));have zr:cm (gD w5 (M+1) (tP wi X5.length wj) X5):=va;clear va wg vm;go_wp2;go_roundw
     case rel=>exact⟨q+1,wi,wj,by omega,by go_num,by rw[<-wk.out],by rw[<-wk.out];exact zr.out,zp.out⟩
     case measure=>simp[intOf];omega
    ·have zv:q=s.fs.length:=by omega
     subst zv;rw[de] at J⊢;obtain⟨XF,vc⟩:=zE (s.fs.map Fd.nm);have xl:cm (zP 133 #[tP ur XF.length uv] wr (tU (decide (¬XF.Nodup)))):=by
      rw[<-vc];exact jO wr uv ur (s.fs.map Fd.nm) (by simp;exact ws) (λx hx=>by
       obtain⟨f,An,rfl⟩:=dy.1 hx;exact B5.out f An) J.out.at_
     rw[vc];have AM:=zH vc;clear vc J;obtain⟨d,hd⟩:=zE (decide (¬XF.Nodup));rw[hd] at xl;have HD:=zH hd;clear hd vd G;cases d with
     |true=>
      have Cd:cm (R=tE):=by
       unfold cm;rw[HR.out,kq.2 ⟨s,cf ye.out,by rw[AM.out];exact HD.out⟩];rfl
      go_wp2_with (go_at_call 133;refine xl.out.mono ?_;rintro e w6 ⟨rfl,ud⟩;have uc:=zH ud;clear ud)
      go_ret;rw[Cd.out]
      try rw[HN.out]
      exact⟨rfl,xr.out.trans ((yb.out.trans ((vf.out.trans (uc.out.mono vu)).mono (by omega))).mono (by omega))⟩
     |false=>
      have Cl:cm ((s.fs.map Fd.nm).Nodup):=by
       unfold cm;rw[AM.out];exact Decidable.of_not_not (of_decide_eq_false HD.out)
      go_upto_region 13 with(go_at_call 133;refine xl.out.mono ?_;rintro e w6 ⟨rfl,ud⟩;have uc:cm (bh (M+1) W2 w6):=vf.out.trans (ud.mono vu);clear ud)
      obtain⟨n0,_,_⟩:=yd.out w6 uc.out;have C5:M+1<=w6.heap.size:=by have:=uc.out.size;omega
      have AN:cm (gD w6 (N+1) (tP ao A.length cap) A):=by
       refine AK.out.below (pw uc.out ?_);omega
      clear m0 m1 xl
      go_wp2_with (at_builtin;refine gL rfl (.tmp 34) (.tmp 37) rfl (N+1) (tP ao A.length cap) A rfl (AN.out.below ((aq _ _).alloc (ce _) _)) ⟨w6.heap.size,0,tD⟩ s.s.nm 1 rfl ?c0 yi ?c1 ?_)
      case c0=>rw[World.cell?_alloc_new];rfl
      case c1=>rw[World.size_alloc];omega
      intro v7 w7 xo AS;obtain⟨X7,As⟩:=zE (A++[s.s.nm]);rw[As] at xo;obtain⟨AT,AW,rfl⟩:=xo.isSlice;have A0:cm (X7=(m.ss.take (j+1)).map λs=>s.s.nm):=by unfold cm;rw[jP (λs:St=>s.s.nm) ye.out,B6.out,As]
      have At:cm (bh (N+1) W1 w7):=((yb.out.trans (uc.out.mono (by omega))).alloc (by omega) _).trans (gD.grown (AN.out.below ((aq _ _).alloc (ce _) _)) AS (ce _) (by simp;omega));have Cp:cm (gD w7 (N+1) (tP AT X7.length AW) X7):=xo;clear xo AS As;go_wp2;go_roundw
      case rel=>exact⟨j+1,AT,AW,by omega,by go_num,by rw[<-A0.out],by rw[<-A0.out];exact Cp.out,dE (p:=λs:St=>(s.fs.map Fd.nm).Nodup) wx.out ye.out Cl.out,At.out⟩
      case measure=>simp[intOf];omega
  ·have CA:j=m.ss.length:=by omega
   subst CA;rw[de] at vp wx⊢;obtain⟨A,ue⟩:=zE (m.ss.map λs=>s.s.nm);have yi:A.length<=90000:=by rw[<-ue];simp;omega
   rw[ue] at vp⊢;have wl:cm (R=(decide (¬A.Nodup)||decide (¬(m.fs.map λf=>f.c.nm).Nodup))):=by
    unfold cm;rw[HR.out,ue];have e:(m.ss.any λs=>decide (¬(s.fs.map Fd.nm).Nodup))=tG:=by
     rw[lz];intro s vr;have:=wx.out s vr;simpa using this
    rw[e,Bool.false_or]
   have CC:cm (∀x∈A,x.size<=dT):=λx hx=>by
    rw[<-ue] at hx;obtain⟨s,AE,rfl⟩:=dy.1 hx;exact(HM.out.sin s AE).nm
   clear hb xt xF wx HR ue
   go_upto_region 16 with(fail)
   obtain⟨wo,CD⟩:∃wo,wo=wr:=⟨_,rfl⟩
   subst CD
   go_loopw [4,43] (λv c wq=>∃(q:bx) (ao:eA Addr) (cap:bx),q<=m.fs.length/\c= Z U (q:bp)/\v= tP ao ((m.fs.take q).map λf=>f.c.nm).length cap/\gD wq wo.heap.size v ((m.fs.take q).map λf=>f.c.nm)/\bh wo.heap.size wo wq) (λ_ c _=>m.fs.length-(intOf c).toNat)
   case atStart=>exact⟨0,tD,0,cN _,rfl,rfl,gD.nil _ _,aq _ _⟩
   case round=>
    obtain⟨q,ur,uv,hq,rfl,rfl,vd,G⟩:=hrel;have vf:=zH G;have J:=zH vd;have vu:=G.size;clear k0 k1
    by_cases vh:q<m.fs.length
    ·obtain⟨f,vi⟩:∃f,m.fs[q]?=tB f:=⟨_,am vh⟩
     obtain⟨fb,vx,yk,yp,vy⟩:=HM.out.frow (by intro e;rw[e] at vh;simp at vh);have yq:fb<N:=by omega
     have yr:cm (bh N w wr):=xT.out.trans (G.mono (by omega));have yv:cm (∀k u,f.cells.toList[k]?=tB u->wr.cell? ((⟨fb,vx+q*8,tD⟩:Addr).add k)=tB u):=λk u hu=>by
      rw[dc,yr.out.cell (p:=⟨fb,_,tD⟩) yq];exact vy q f vi k u hu
     obtain⟨P,hP⟩:=zE wr.heap.size;obtain⟨W3,D⟩:=zE (wr.alloc (ua f.cells 38));have B8:∀(c:da cd),c.size=8->(dr ⟨P,0,tD⟩ f.cells.toList 0).run ac (wr.alloc (ua c 38))= .ok () W3:=λc hc=>by
      rw[<-D,<-hP];exact ct (P:=ac) wr 38 c f.cells (by show _=tB 8;kernel_rfl) hc (fH f)
     have we:W3.heap[P]?=tB (ua f.cells 38 (0,0)):=by rw[<-D,<-hP];exact alloc_at _ _
     have yy:W3.heap.size=P+1:=by rw[<-D];simp[hP]
     have p0:=zR we 0 (tM f.c.nm);have yW:cm (bh wo.heap.size wo W3):=by rw[<-D];exact vf.out.alloc vu _
     have vj:cm (gD W3 wo.heap.size (tP ur ((m.fs.take q).map λf=>f.c.nm).length uv) ((m.fs.take q).map λf=>f.c.nm)):=by rw[<-D];exact J.out.below ((aq _ _).alloc (ce _) _)
     have zc:=zH vi;have B9:(q:bp)<(m.fs.length:bp):=by omega
     obtain⟨XQ,ux⟩:=zE ((m.fs.take q).map λf=>f.c.nm);have zd:XQ.length<=90000:=by rw[<-ux];simp;omega
     have zj:=zH ux;rw[yk];rw[ux] at vj⊢;clear G vd J vi yp vy we D ux
     go_wp2_with (first
      |(refine aG rfl 38 _ rfl ⟨fb,vx+q*8,tD⟩ rfl f.cells _ yv.out cQ rfl (by kernel_rfl) ?_)
      |(at_builtin;refine gL rfl (.tmp 47) (.tmp 50) rfl wo.heap.size (tP ur XQ.length uv) XQ rfl (vj.out.below ((aq _ _).alloc (ce _) _)) ⟨P+1,0,tD⟩ f.c.nm 1 rfl ?c0 zd ?c1 ?_))
     case c0=>rw[<-yy,World.cell?_alloc_new];rfl
     case c1=>rw[World.size_alloc];omega
     intro v5 w5 va wg;obtain⟨X5,vm⟩:=zE (XQ++[f.c.nm]);rw[vm] at va;obtain⟨wi,wj,rfl⟩:=va.isSlice;have wk:cm (X5=(m.fs.take (q+1)).map λf=>f.c.nm):=by unfold cm;rw[jP (λf:Fn=>f.c.nm) zc.out,zj.out,vm]
     have zp:cm (bh wo.heap.size wo w5):=(yW.out.alloc (by omega) _).trans (gD.grown (vj.out.below ((aq _ _).alloc (ce _) _)) wg (ce _) (by simp;omega));have zr:cm (gD w5 wo.heap.size (tP wi X5.length wj) X5):=va;clear va wg vm;go_wp2;go_roundw
     case rel=>exact⟨q+1,wi,wj,by omega,by go_num,by rw[<-wk.out],by rw[<-wk.out];exact zr.out,zp.out⟩
     case measure=>simp[intOf];omega
    ·have zv:q=m.fs.length:=by omega
     subst zv;rw[de] at J⊢;obtain⟨XF,vc⟩:=zE (m.fs.map λf=>f.c.nm);rw[vc] at J wl⊢;have A2:∀x∈XF,x.size<=dT:=λx hx=>by
      rw[<-vc] at hx;obtain⟨f,An,rfl⟩:=dy.1 hx;exact(HM.out.fin f An).nm
     have CH:XF.length<=90000:=by rw[<-vc];simpa using hf
     have Ax:cm (zP 133 #[tP ao A.length cap] wr (tU (decide (¬A.Nodup)))):=
      jO wr cap ao A yi CC.out ((vp.out.below vf.out).at_)
     have A4:cm (∀W,bh wr.heap.size wr W->zP 133 #[tP ur XF.length uv] W (tU (decide (¬XF.Nodup)))):=λW hW=>
      jO W uv ur XF CH A2 ((J.out.below hW).at_)
     obtain⟨d,hd⟩:=zE (decide (¬A.Nodup));obtain⟨d2,A5⟩:=zE (decide (¬XF.Nodup));rw[hd] at Ax wl;rw[A5] at A4 wl;have A6:cm (bh N w wr):=xT.out.trans (vf.out.mono (by omega));clear vd G vc A2 J vp hd A5;cases d with
     |true=>
      go_wp2_with (go_at_call 133;refine Ax.out.mono ?_;rintro e w6 ⟨rfl,ud⟩;have uc:=zH ud;clear ud)
      go_ret;rw[wl.out]
      try rw[HN.out]
      exact⟨rfl,A6.out.trans (uc.out.mono (by omega))⟩
     |false=>
      go_upto_region 20 with(fail)
      go_wp2_with (first
       |(go_at_call 133;refine(A4.out _ uc.out).mono ?_;rintro e w7 ⟨rfl,Bk⟩;have At:=zH Bk;clear Bk)
       |(go_at_call 133;refine Ax.out.mono ?_;rintro e w6 ⟨rfl,ud⟩;have uc:=zH ud;clear ud))
      go_ret;rw[wl.out]
      try rw[HN.out]
      exact⟨rfl,(A6.out.trans (uc.out.mono (by omega))).trans (At.out.mono (by have:=uc.out.size;omega))⟩
def wH (t:Ty):da cd:=#[tW #[tU t.1,tM t.2]]
def nU (N B:bx)(k:bx):Prop:=k<N\/k=B
def Hy (f:Fn):bm Ty:=f.ret::f.vs.map Vr.ty
def Hz (s:St):bm Ty:=s.fs.map Fd.ty
def lm (m:Mo)(j:bx):bm Ty:=(m.fs.drop j).flatMap Hy
def l7 (m:Mo)(j:bx):bm Ty:=(m.ss.drop j).flatMap Hz++lm m 0
theorem zM (m:Mo):bP m=l7 m 0:=rfl
theorem Bz {m:Mo}{j:bx}{s:St}(h:m.ss[j]?=tB s):l7 m j=(s.fs.drop 0).map Fd.ty++l7 m (j+1):=by
 obtain⟨d,e⟩:=ap.1 h;unfold l7;rw[eR d,e,el,fR];rfl
theorem Df (m:Mo):l7 m m.ss.length=lm m 0:=by
 unfold l7;simp
theorem BA {m:Mo}{j:bx}{f:Fn}(h:m.fs[j]?=tB f):lm m j=f.ret::((f.vs.drop 0).map Vr.ty++lm m (j+1)):=by
 obtain⟨d,e⟩:=ap.1 h;unfold lm;rw[eR d,e,el];rfl
theorem Dh (m:Mo):lm m m.fs.length=[]:=by
 unfold lm;simp
theorem nE {α:Type}{l:bm α}{q:bx}{x:α}(f:α->Ty)(h:l[q]?=tB x):(l.drop q).map f=f x::(l.drop (q+1)).map f:=by
 obtain⟨d,e⟩:=ap.1 h;rw[eR d,e,lP]
theorem oO {α:Type}(l:bm α)(f:α->Ty):(l.drop l.length).map f=[]:=by simp
theorem xW (f:Vr):(f.cells.all λx=>x.oneCell')=tE:=by
 rw[<-ld];simp[Vr.cells,cj]
theorem sH {d r:bm Ty}{x:Ty}{xs:bm Ty}(h:xs=d++x::r):(d++[x])<+:xs/\xs=(d++[x])++r:=by
 subst h;exact⟨⟨r,by simp⟩,by simp⟩
theorem zV (w0 w:World)(m:Mo)(B:bx)(h:m.inn w0)(hb:bh w0.heap.size w0 w)(hB:w.heap[B]?=tB (ua m.cells 25 (0,0)))(xj:∀s∈m.ss,s.fs.length<=90000)(xl:∀f∈m.fs,f.vs.length<=90000)(BY:m.ss.length<=90000)(B4:m.fs.length<=90000):
  Iter ac 134 #[tR (tB ⟨B,0,tD⟩)] wH (bP m) (nU w0.heap.size B) w:=by
 intro l J Jx C W xo hst yv hstx yy hJ;have wx:=zH hst;have vu:=zH yv;have HM:=zH yy;have HJ:=zH hJ;have At:=zH xj;have Ax:=zH xl;have yW:W.heap[B]?=tB (ua m.cells 25 (0,0)):=(xo.block B (bj.1 hB).1).trans hB;obtain⟨N,hN⟩:=zE w0.heap.size;rw[hN] at vu;have HR:cm (∀W1,Ext (λk=>¬nU N B k) W W1->W1.cell? ⟨B,0,tD⟩=tB (tP m.sA m.ss.length m.sC)/\W1.cell? ⟨B,1,tD⟩=tB (tP m.fA m.fs.length m.fC)/\m.inn W1/\B<W1.heap.size):=by
  intro W1 hx;have q:=hx.heap yW (λh=>h (.inr rfl));refine⟨by rw[cc _ _ _ _ _ _ q];rfl,by rw[cc _ _ _ _ _ _ q];rfl, ?_,(bj.1 q).1⟩;have b1:bh w0.heap.size w0 W:=hb.trans (xo.mono hb.size);have b2:bh N W W1:=hx.below (by rw[<-hN];exact b1.size) (λk hk=>by
   by_cases e:k<N
   ·exact fW (.inl e) hk
   ·omega)
  exact h.below (b1.trans (by rw[hN];exact b2))
 obtain⟨XS,xp⟩:=zE (bP m);rw[xp] at HM⊢;have AD:cm (XS=l7 m 0):=by rw[<-xp];exact zM m
 obtain⟨c0,c1,_,B5⟩:=HR.out W (Ext.refl _ _);clear hst yv hstx yy hJ h hb hB xo yW xp hN xj xl
 show gd _ _ #[.func (.yield l) #[] #[],tR (tB ⟨B,0,tD⟩)] _ _
 go_enter func134,ntmps134
 go_wp2_with fail
 go_loopw [14] (λc wr=>∃(j:bx) (d:bm Ty) (C:bx->Prop),j<=m.ss.length/\c= Z U (j:bp)/\XS=d++l7 m j/\J d C wr/\Ext (λk=>¬nU N B k) W wr) (λc _=>m.ss.length-(intOf c).toNat)
 case atStart=>exact⟨0,[],C,cN _,rfl,AD.out,HJ.out,Ext.refl _ _⟩
 case round=>
  clear c0 c1;obtain⟨j,d,C1,hj,rfl,uc,vi,ux⟩:=hrel;have vx:=zH ux;have vj:=zH vi;have B6:=zH uc;obtain⟨c0,c1,va,B8⟩:=HR.out wr ux
  by_cases vm:j<m.ss.length
  ·obtain⟨s,hs⟩:∃s,m.ss[j]?=tB s:=⟨_,am vm⟩
   have xr:=cf hs;have zc:=va.sin s xr;obtain⟨b0,zd,hA,AE,zj⟩:=va.srow (by intro e;rw[e] at vm;simp at vm);have AF:cm (∀k u,s.cells.toList[k]?=tB u->wr.cell? ((⟨b0,zd+j*4,tD⟩:Addr).add k)=tB u):=λk u hu=>by
    rw[dc];exact zj j s hs k u hu
   obtain⟨M,hM⟩:=zE wr.heap.size;obtain⟨W2,vy⟩:=zE (wr.alloc (ua s.cells 90));have hst:∀(c:da cd),c.size=4->(dr ⟨M,0,tD⟩ s.cells.toList 0).run ac (wr.alloc (ua c 90))= .ok () W2:=λc hc=>by
    rw[<-vy,<-hM];exact ct (P:=ac) wr 90 c s.cells (by show _=tB 4;kernel_rfl) hc (oM s)
   have xt:W2.heap[M]?=tB (ua s.cells 90 (0,0)):=by rw[<-vy,<-hM];exact alloc_at _ _
   have m1:W2.cell? ⟨M,1,tD⟩=tB (tP s.s.fA s.fs.length s.s.fC):=by rw[cc _ _ _ _ _ _ xt,<-zc.nf];rfl
   have B9:M<W2.heap.size:=(bj.1 xt).1;have AG:cm (Ext (λk=>¬nU N B k) W W2):=by rw[<-vy];exact vx.out.alloc _
   have AH:cm (J d C1 W2):=by rw[<-vy];exact wx.out _ _ _ _ vj.out ((Ext.refl _ _).alloc _)
   have zp:XS=d++((s.fs.drop 0).map Fd.ty++l7 m (j+1)):=by rw[uc,Bz hs]
   have AI:=zH zp;have HS:=zH hs;have xj:=At.out s xr;have AK:(j:bp)<(m.ss.length:bp):=by omega
   rw[hA] at c0⊢;clear ux vi uc zc AE zj hs xt vy zp va
   go_upto_region 4 with(refine aG rfl 90 _ rfl ⟨b0,zd+j*4,tD⟩ rfl s.cells _ AF.out ot rfl (by kernel_rfl) ?_)
   go_loopw [21] (λc wq=>∃(q:bx) (d:bm Ty) (C:bx->Prop),q<=s.fs.length/\c= Z U (q:bp)/\XS=d++((s.fs.drop q).map Fd.ty++l7 m (j+1))/\J d C wq/\Ext (λk=>¬nU N B k) W wq) (λc _=>s.fs.length-(intOf c).toNat)
   case atStart=>exact⟨0,d,C1,cN _,rfl,AI.out,AH.out,AG.out⟩
   case round=>
    clear m1 c0 c1;obtain⟨q,pq,C2,hq,rfl,ue,vp,vc⟩:=hrel;have we:=zH vc;have wg:=zH vp;obtain⟨_,_,xF,_⟩:=HR.out wr vc
    by_cases vq:q<s.fs.length
    ·obtain⟨f,hf⟩:∃f,s.fs[q]?=tB f:=⟨_,am vq⟩
     obtain⟨fb,wi,xT,ya,wj⟩:=(xF.sin s xr).row (by intro e;rw[e] at vq;simp at vq);have yb:cm (∀k u,f.cells.toList[k]?=tB u->wr.cell? ((⟨fb,wi+q*5,tD⟩:Addr).add k)=tB u):=λk u hu=>by
      rw[dc];exact wj q f hf k u hu
     obtain⟨P,hP⟩:=zE wr.heap.size;obtain⟨A,ur⟩:=zE (wr.alloc (ua f.cells 92));have AM:∀(c:da cd),c.size=5->(dr ⟨P,0,tD⟩ f.cells.toList 0).run ac (wr.alloc (ua c 92))= .ok () A:=λc hc=>by
      rw[<-ur,<-hP];exact ct (P:=ac) wr 92 c f.cells (by show _=tB 5;kernel_rfl) hc (oN f)
     have uv:A.heap[P]?=tB (ua f.cells 92 (0,0)):=by rw[<-ur,<-hP];exact alloc_at _ _
     have p1:=zR uv 1 (tU f.ptr);have p2:=zR uv 2 (tM f.tgt);have AN:P<A.heap.size:=(bj.1 uv).1;have yd:cm (Ext (λk=>¬nU N B k) W A):=by rw[<-ur];exact we.out.alloc _
     have vr:J pq C2 A:=by rw[<-ur];exact wx.out _ _ _ _ wg.out ((Ext.refl _ _).alloc _)
     have ye:=zH vr;have vf:XS=pq++f.ty::((s.fs.drop (q+1)).map Fd.ty++l7 m (j+1)):=by rw[ue,nE Fd.ty hf];rfl
     have HP:=zH (sH vf);have ud:=zH (HM.out pq f.ty C2 A vr HP.out.1);unfold wH at ud;simp only[Fd.ty] at ud;have AS:(q:bp)<(s.fs.length:bp):=by omega
     rw[xT];clear vc vp ue hf ya wj uv ur vr vf xF
     go_upto_region 6 with(refine aG rfl 92 _ rfl ⟨fb,wi+q*5,tD⟩ rfl f.cells _ yb.out underlying92 rfl (by kernel_rfl) ?_)
     refine(pT (n:=0)).1 ?_;refine m8 (aB rfl (by simp) (.func (.yield l) #[] #[]) (w':=A) (by simp[go_sem]) ?_);simp only[dk,aw,bt,bw];refine aB rfl (by simp) (tR (tB ⟨P,1,tD⟩)) (w':=A) (by simp[go_sem]) ?_;simp only[dk,aw,bt,bw];refine aB rfl (by simp) (tW #[tU f.ptr,tM f.tgt]) (w':=A) (by simp[go_sem,p1,p2]) ?_;simp only[dk,aw,bt,bw];refine eU (fv:= .func (.yield l) #[] #[]) (args:=#[tW #[tU (f.ptr,f.tgt).1,tM (f.ptr,f.tgt).2]]) rfl (.tmp 25) #[.tmp 27] _ rfl rfl (by simp[Act.eval]) ud.out ?_;intro v D hv;simp only[dk,aw,bt,bw];rcases hv with⟨rfl,C',wk,G,vd⟩|⟨rfl,G⟩
     ·refine aB rfl (by simp) (tU tG) (w':=D) (by simp[go_sem]) ?_
      simp only[dk,aw,bt,bw];refine ju ?_;have wl:cm (J (pq++[f.ty]) C' D/\Ext (λk=>¬nU N B k) W D):=⟨G,yd.out.trans vd (λk hk=> .inl ((vu.out _ _ _ ye.out k hk).2))⟩
      clear G vd wk p1 p2;go_wp2;go_roundw
      case rel=>exact⟨q+1,_,C',by omega,by go_num,HP.out.2,wl.out.1,wl.out.2⟩
      case measure=>simp[intOf];omega
     ·refine aB rfl (by simp) (tU tE) (w':=D) (by simp[go_sem]) ?_
      simp only[dk,aw,bt,bw];refine ju ?_;have HF:cm (∃d,d<+:XS/\Jx d D):=⟨_,HP.out.1,G⟩
      clear G p1 p2;go_wp2
      ((try simp only[db,Exit.then]);(try rw[iz]);(first|refine dv (fa rfl _ _ _) rfl ?_|refine kA (fa rfl _ _ _) rfl ?_));exact⟨_,rfl,.inr HF.out⟩
    ·have yi:q=s.fs.length:=by omega
     subst yi;rw[oO,fc] at ue;have vh:=zH ue;clear vc vp ue xF;go_wp2;go_roundw
     case rel=>exact⟨j+1,pq,C2,by omega,by go_num,vh.out,wg.out,we.out⟩
     case measure=>simp[intOf];omega
  ·have yk:j=m.ss.length:=by omega
   subst yk;rw[Df] at uc;have vh:=zH uc;obtain⟨wo,AT⟩:∃wo,wo=wr:=⟨_,rfl⟩
   subst AT;clear ux vi uc va
   go_upto_region 10 with(fail)
   go_loopw [35] (λc wr=>∃(j:bx) (d:bm Ty) (C:bx->Prop),j<=m.fs.length/\c= Z U (j:bp)/\XS=d++lm m j/\J d C wr/\Ext (λk=>¬nU N B k) W wr) (λc _=>m.fs.length-(intOf c).toNat)
   case atStart=>exact⟨0,d,C1,cN _,rfl,vh.out,vj.out,vx.out⟩
   case round=>
    clear c0 c1 vh vj vx;obtain⟨j,d,C1,hj,rfl,uc,vi,ux⟩:=hrel;have vx:=zH ux;have vj:=zH vi;obtain⟨_,_,va,_⟩:=HR.out wr ux
    by_cases vm:j<m.fs.length
    ·obtain⟨f,hf⟩:∃f,m.fs[j]?=tB f:=⟨_,am vm⟩
     have yp:=cf hf;have AW:=(va.fin f yp).nvars;obtain⟨fb,wi,xT,ya,wj⟩:=va.frow (by intro e;rw[e] at vm;simp at vm);have yb:cm (∀k u,f.cells.toList[k]?=tB u->wr.cell? ((⟨fb,wi+j*8,tD⟩:Addr).add k)=tB u):=λk u hu=>by
      rw[dc];exact wj j f hf k u hu
     obtain⟨P,hP⟩:=zE wr.heap.size;obtain⟨A,ur⟩:=zE (wr.alloc (ua f.cells 38));have AM:∀(c:da cd),c.size=8->(dr ⟨P,0,tD⟩ f.cells.toList 0).run ac (wr.alloc (ua c 38))= .ok () A:=λc hc=>by
      rw[<-ur,<-hP];exact ct (P:=ac) wr 38 c f.cells (by show _=tB 8;kernel_rfl) hc (fH f)
     have uv:A.heap[P]?=tB (ua f.cells 38 (0,0)):=by rw[<-ur,<-hP];exact alloc_at _ _
     have p3:=zR uv 3 (tU f.c.rp);have p4:=zR uv 4 (tM f.c.rto);have AN:P<A.heap.size:=(bj.1 uv).1;have yd:cm (Ext (λk=>¬nU N B k) W A):=by rw[<-ur];exact vx.out.alloc _
     have vr:J d C1 A:=by rw[<-ur];exact wx.out _ _ _ _ vj.out ((Ext.refl _ _).alloc _)
     have ye:=zH vr;have A0:cm (¬C1 P):=λh=>by have:=(vu.out _ _ _ vj.out P h).1;omega
     have A2:=zH uv;have vf:XS=d++f.ret::((f.vs.drop 0).map Vr.ty++lm m (j+1)):=by rw[uc,BA hf]
     have HP:=zH (sH vf);have ud:=zH (HM.out d f.ret C1 A vr HP.out.1);unfold wH at ud;simp only[Fn.ret] at ud;have AK:(j:bp)<(m.fs.length:bp):=by omega
     have xl:=Ax.out f yp;have A4:cm (∀W1,Ext (λk=>¬nU N B k) W W1->aK Vr.cells 3 W1 W1.heap.size f.c.varsA f.vs):=λW1 hx=>((HR.out W1 hx).2.2.1.fin f yp).vars;rw[xT];clear ux vi uc hf ya wj uv ur vr vf va
     go_upto_region 12 with(refine aG rfl 38 _ rfl ⟨fb,wi+j*8,tD⟩ rfl f.cells _ yb.out cQ rfl (by kernel_rfl) ?_)
     refine(pT (n:=0)).1 ?_;refine m8 (aB rfl (by simp) (.func (.yield l) #[] #[]) (w':=A) (by simp[go_sem]) ?_);simp only[dk,aw,bt,bw];refine aB rfl (by simp) (tR (tB ⟨P,3,tD⟩)) (w':=A) (by simp[go_sem]) ?_;simp only[dk,aw,bt,bw];refine aB rfl (by simp) (tR (tB ⟨P,3,tD⟩)) (w':=A) (by simp[go_sem]) ?_;simp only[dk,aw,bt,bw];refine aB rfl (by simp) (tW #[tU f.c.rp,tM f.c.rto]) (w':=A) (by simp[go_sem,p3,p4]) ?_;simp only[dk,aw,bt,bw];refine eU (fv:= .func (.yield l) #[] #[]) (args:=#[tW #[tU (f.c.rp,f.c.rto).1,tM (f.c.rp,f.c.rto).2]]) rfl (.tmp 39) #[.tmp 42] _ rfl rfl (by simp[Act.eval]) ud.out ?_;intro v D hv;simp only[dk,aw,bt,bw];rcases hv with⟨rfl,C',wk,G,vd⟩|⟨rfl,G⟩
     ·refine aB rfl (by simp) (tU tG) (w':=D) (by simp[go_sem]) ?_
      simp only[dk,aw,bt,bw];refine ju ?_;have wl:cm (J (d++[f.ret]) C' D/\Ext (λk=>¬nU N B k) W D):=⟨G,yd.out.trans vd (λk hk=> .inl ((vu.out _ _ _ ye.out k hk).2))⟩
      have q3:=vd.heap A2.out A0.out;have p2:D.cell? ⟨P,2,tD⟩=tB (tP f.c.varsA f.vs.length f.c.varsC):=by rw[cc _ _ _ _ _ _ q3,<-AW];rfl
      have Cd:P<D.heap.size:=(bj.1 q3).1;have A5:cm (XS=(d++[f.ret])++((f.vs.drop 0).map Vr.ty++lm m (j+1))):=HP.out.2;clear G vd wk p3 p4 q3 ud;obtain⟨Cl,A6⟩:∃wo,wo=wr:=⟨_,rfl⟩
      subst A6
      go_upto_region 14 with(fail)
      go_loopw [48] (λc wq=>∃(q:bx) (d:bm Ty) (C:bx->Prop),q<=f.vs.length/\c= Z U (q:bp)/\XS=d++((f.vs.drop q).map Vr.ty++lm m (j+1))/\J d C wq/\Ext (λk=>¬nU N B k) W wq) (λc _=>f.vs.length-(intOf c).toNat)
      case atStart=>exact⟨0,_,C',cN _,rfl,A5.out,wl.out.1,wl.out.2⟩
      case round=>
       clear p2;obtain⟨q,pq,C2,hq,rfl,ue,vp,vc⟩:=hrel;have we:=zH vc;have wg:=zH vp
       by_cases vq:q<f.vs.length
       ·obtain⟨x,hx⟩:∃x,f.vs[q]?=tB x:=⟨_,am vq⟩
        obtain⟨vb,zr,Bk,Bm,zv⟩:=A4.out wr vc (by intro e;rw[e] at vq;simp at vq);have By:cm (∀k u,x.cells.toList[k]?=tB u->wr.cell? ((⟨vb,zr+q*3,tD⟩:Addr).add k)=tB u):=λk u hu=>by
         rw[dc];exact zv q x hx k u hu
        obtain⟨P2,An⟩:=zE wr.heap.size;obtain⟨W4,ws⟩:=zE (wr.alloc (ua x.cells 34));have Cp:∀(c:da cd),c.size=3->(dr ⟨P2,0,tD⟩ x.cells.toList 0).run ac (wr.alloc (ua c 34))= .ok () W4:=λc hc=>by
         rw[<-ws,<-An];exact ct (P:=ac) wr 34 c x.cells (by show _=tB 3;kernel_rfl) hc (xW x)
        have xf:W4.heap[P2]?=tB (ua x.cells 34 (0,0)):=by rw[<-ws,<-An];exact alloc_at _ _
        have p0:=zR xf 0 (tU x.ptr);have p1:=zR xf 1 (tM x.tgt);have CA:P2<W4.heap.size:=(bj.1 xf).1;have BE:cm (Ext (λk=>¬nU N B k) W W4):=by rw[<-ws];exact we.out.alloc _
        have yq:J pq C2 W4:=by rw[<-ws];exact wx.out _ _ _ _ wg.out ((Ext.refl _ _).alloc _)
        have BT:=zH yq;have vf:XS=pq++x.ty::((f.vs.drop (q+1)).map Vr.ty++lm m (j+1)):=by rw[ue,nE Vr.ty hx];rfl
        have yr:=zH (sH vf);have ud:=zH (HM.out pq x.ty C2 W4 yq yr.out.1);unfold wH at ud;simp only[Vr.ty] at ud;have AS:(q:bp)<(f.vs.length:bp):=by omega
        rw[Bk];clear vc vp ue hx Bm zv xf ws yq vf
        go_upto_region 16 with(refine aG rfl 34 _ rfl ⟨vb,zr+q*3,tD⟩ rfl x.cells _ By.out underlying34 rfl (by kernel_rfl) ?_)
        refine(pT (n:=0)).1 ?_;refine m8 (aB rfl (by simp) (.func (.yield l) #[] #[]) (w':=W4) (by simp[go_sem]) ?_);simp only[dk,aw,bt,bw];refine aB rfl (by simp) (tR (tB ⟨P2,0,tD⟩)) (w':=W4) (by simp[go_sem]) ?_;simp only[dk,aw,bt,bw];refine aB rfl (by simp) (tW #[tU x.ptr,tM x.tgt]) (w':=W4) (by simp[go_sem,p0,p1]) ?_;simp only[dk,aw,bt,bw];refine eU (fv:= .func (.yield l) #[] #[]) (args:=#[tW #[tU (x.ptr,x.tgt).1,tM (x.ptr,x.tgt).2]]) rfl (.tmp 52) #[.tmp 54] _ rfl rfl (by simp[Act.eval]) ud.out ?_;intro v D hv;simp only[dk,aw,bt,bw];rcases hv with⟨rfl,C',wk,G,vd⟩|⟨rfl,G⟩
        ·refine aB rfl (by simp) (tU tG) (w':=D) (by simp[go_sem]) ?_
         simp only[dk,aw,bt,bw];refine ju ?_;have As:cm (J (pq++[x.ty]) C' D/\Ext (λk=>¬nU N B k) W D):=⟨G,BE.out.trans vd (λk hk=> .inl ((vu.out _ _ _ BT.out k hk).2))⟩
         clear G vd wk p0 p1;go_wp2;go_roundw
         case rel=>exact⟨q+1,_,C',by omega,by go_num,yr.out.2,As.out.1,As.out.2⟩
         case measure=>simp[intOf];omega
        ·refine aB rfl (by simp) (tU tE) (w':=D) (by simp[go_sem]) ?_
         simp only[dk,aw,bt,bw];refine ju ?_;have HF:cm (∃d,d<+:XS/\Jx d D):=⟨_,yr.out.1,G⟩
         clear G p0 p1;go_wp2
         ((try simp only[db,Exit.then]);(try rw[iz]);(first|refine dv (fa rfl _ _ _) rfl ?_|refine kA (fa rfl _ _ _) rfl ?_));exact⟨_,rfl,.inr HF.out⟩
       ·have yi:q=f.vs.length:=by omega
        subst yi;rw[oO,fc] at ue;have vh:=zH ue;clear vc vp ue;go_wp2;go_roundw
        case rel=>exact⟨j+1,pq,C2,by omega,by go_num,vh.out,wg.out,we.out⟩
        case measure=>simp[intOf];omega
     ·refine aB rfl (by simp) (tU tE) (w':=D) (by simp[go_sem]) ?_
      simp only[dk,aw,bt,bw];refine ju ?_;have HF:cm (∃d,d<+:XS/\Jx d D):=⟨_,HP.out.1,G⟩
      clear G p3 p4;go_wp2
      ((try simp only[db,Exit.then]);(try rw[iz]);(first|refine dv (fa rfl _ _ _) rfl ?_|refine kA (fa rfl _ _ _) rfl ?_));exact⟨_,rfl,.inr HF.out⟩
    ·have yk:j=m.fs.length:=by omega
     subst yk;rw[Dh,mj] at uc;have vh:cm (J XS C1 wr):=by unfold cm;rw[uc];exact vj.out
     clear ux vi uc va;go_wp2
     ((try simp only[db,Exit.then]);(try rw[iz]);(first|refine dv (fa rfl _ _ _) rfl ?_|refine kA (fa rfl _ _ _) rfl ?_));exact⟨_,rfl,.inl ⟨C1,vh.out⟩⟩
section
attribute [local go_sem] Oper.semAt_some
private theorem sI (p:Tmp)(v:cd)(t:da cd):((#[p]:da Tmp).zip #[v]).foldl (λt (p,v)=>t.setIfInBounds p v) t=t.setIfInBounds p v:=by simp
theorem zY (m:Mo)(w:World):gd ac 95 #[tW m.cells] w λe w'=>
  e= ub (.func (.func 134) #[] #[tR (tB ⟨w.heap.size,0,tD⟩)])/\w'=w.alloc (ua m.cells 25):=by
 have d:∀(fn:Fn)(first cap:da cd)(w:World),True:=λ_ _ _ _=>trivial;go_enter func95,ntmps95;go_wp2;go_ret;exact⟨rfl,rfl⟩
def BB:Fn:=⟨⟨⟨#[]⟩,0,tD,0,0,tG,⟨#[]⟩,0,tD,0,0,tD,0,[]⟩,[],[],[]⟩
def rA (d:da cd):bx->bm cd->da cd
 |_,[]=>d
 |o,v::r=>rA (d.setIfInBounds o v) (o+1) r
theorem oP {b:bx}{t:gx}:∀(f:bm cd)(o:bx)(w:World)(d:da cd),w.heap[b]?=tB (ua d t (0,0))->(w.setCells b o f).heap[b]?=tB (ua (rA d o f) t (0,0))
 |[],_,_,_,h=>h
 |v::r,o,w,d,h=>oP r (o+1) _ _ (eL w b o d t v h)
theorem BC (m:Mo)(g f:Fn):rA (jg m g) 2 f.cells.toList=jg m f:=by
 simp[rA,jg,Fn.cells,qp.cells]
theorem GR (m:Mo)(g:Fn):((jg m g).all λx=>x.oneCell')=tE:=by
 rw[<-ld];simp[jg,cj]
theorem dh (tmps:da cd)(w:World)(d:Addr)(v:cd)(f:tmps[2]?=tB (tR (tB d)))(h:w.cell? d=tB v):(tz Tryz.f53 tmps).run ac w= .ok v w:=by
 simp[tz,go_sem,f,h]
structure dR (w:World)(m:Mo):Prop where
 mo:m.inn w
 sl:m.ss.length<=90000
 fl:m.fs.length<=90000
 fd:∀s∈m.ss,s.fs.length<=90000
 vl:∀f∈m.fs,f.vs.length<=90000
 al:∀f∈m.fs,∀i∈f.c.ins,i.args.length<=40
theorem World.keptBut_ext (b:bx):∀(d:bm cd)(o:bx)(w:World),Ext (·=b) w (w.setCells b o d)
 |[],_,w=>Ext.refl _ w
 |v::r,o,w=>(Ext.set1 w b o v).trans (World.keptBut_ext b r (o+1) _) (λ_ f=> .inl f)
structure RI (m:Mo)(N:bx)(XS:bm Ty)(W5:World)(pre:bm Ty)(C:bx->Prop)(W:World):Prop where
 res:W.heap[N+1]?=tB (ua #[Z U 0] 27 (0,0))
 ext:Ext (λk=>k=N+1) W5 W
 kn:∀t∈pre,m.known t=tE
 own:(C=λk=>k=N+1)\/∃(b:bx) (t:Ty),C=(λk=>k=N+1\/k=b)/\XS[pre.length]?=tB t/\W5.heap.size<=b/\W.heap[b]?=tB (ua #[tU t.1,tM t.2] 32 (0,0))
theorem RI.next {m:Mo}{N:bx}{q u:bm Ty}{d W W':World}{C:bx->Prop}(h:RI m N q d u C W)(J:N+1<d.heap.size)(f:Ext (λk=>d.heap.size<=k/\¬C k) W W'):RI m N q d u C W':=by
 refine⟨f.heap h.res (λh=>by omega),h.ext.trans f (λj v=> .inr v.1),h.kn, ?_⟩;rcases h.own with e|⟨b,t,e,A,D,G⟩
 ·exact .inl e
 ·exact .inr ⟨b,t,e,A,D,f.heap G (λh=>h.2 (by rw[e];exact .inr rfl))⟩
theorem RI.res_own {m:Mo}{N:bx}{d f:bm Ty}{q W:World}{C:bx->Prop}(h:RI m N d q f C W):C (N+1):=by
 rcases h.own with e|⟨b,t,e,_⟩
 ·rw[e]
 ·rw[e];exact .inl rfl
structure RX (m:Mo)(N:bx)(W5:World)(c:Code)(C:bx->Prop)(W:World):Prop where
 ret:c= .ret
 res:W.heap[N+1]?=tB (ua #[Z U 5] 27 (0,0))
 ext:Ext (λk=>k=N+1) W5 W
 bad:(bP m).all m.known=tG
 own:C (N+1)
theorem qM (m:Mo)(w:World)(h:dR w m):
  zP 53 #[tW m.cells] w (Z U (bf m)):=by
 have HM:=zH h;obtain⟨R,hR⟩:=zE (bf m);have HR:cm (R=if 30<m.ss.length\/60<m.fs.length then 2
  else if dz m=tE then 6
  else if (bP m).all m.known=tG then 5
  else if aQ (codeF m) m.fs≠0 then aQ (codeF m) m.fs
  else bM (decide (0<=m.fnIx dG)&&(match m.fs[(m.fnIx dG).toNat]? with
   |some g=>decide (g.c.par=0)&& !g.c.rp
   |none=>tG)) 9):=hR.symm
 rw[hR];clear h hR;obtain⟨N,hN⟩:=zE w.heap.size;obtain⟨W1,xr⟩:=zE ((w.alloc (ua m.cells 25)).alloc (ua #[Z U 0] 27));have By:=uF xr hN;have xt:W1.heap.size=N+2:=by rw[<-xr];simp[hN]
 have wg:=yP xr hN;have uv:=AO xr hN;obtain⟨W2,vi⟩:=zE (W1.alloc (ua (jg m BB) 184));have hst:∀(c:da cd),c.size=10->(dr ⟨N+2,0,tD⟩ (jg m BB).toList 0).run ac (W1.alloc (ua c 184))= .ok () W2:=λc hc=>by
  rw[<-vi,<-xt];exact ct (P:=ac) W1 184 c (jg m BB) (by show _=tB 10;kernel_rfl) hc (GR m BB)
 simp only[jg,BB,mp] at hst;have b0:=zR wg 0 (tP m.sA m.ss.length m.sC);have b1:=zR wg 1 (tP m.fA m.fs.length m.fC);have xF:bh (N+2) W1 W2:=by rw[<-vi,<-xt];exact(aq _ _).alloc (ce _) _
 have Fc:W2.heap.size=N+3:=by rw[<-vi];simp[xt]
 have BE:W2.heap[N+2]?=tB (ua (jg m BB) 184 (0,0)):=by rw[<-vi,<-xt];exact alloc_at _ _
 have vj:cm (∀W,bh (N+3) W2 W->W.heap[N]?=tB (ua m.cells 25 (0,0))/\W.heap[N+1]?=tB (ua #[Z U 0] 27 (0,0))/\W.heap[N+2]?=tB (ua (jg m BB) 184 (0,0))):=λW hW=>
  ⟨(hW.block N (by omega)).trans ((xF.block N (by omega)).trans wg),(hW.block (N+1) (by omega)).trans ((xF.block (N+1) (by omega)).trans uv),(hW.block (N+2) (by omega)).trans BE⟩
 have wi:cm (bh N w W2):=By.trans (xF.mono (by omega));have Fi:=zH wg;have HN:=zH hN;have zp:cm (∀(W:World)(z:bp)(u:cd)(bs:bm bx),W.heap[N+1]?=tB (ua #[u] 27 (0,0))->bh N w W->(∀b∈bs,N+2<=b)->∀w',Ext (·∈bs) (W.setCell ⟨N+1,0,tD⟩ (Z U z)) w'->w'.cell? ⟨N+1,0,tD⟩=tB (Z U z)/\bh N w w'):=by
  intro W z u bs h1 J h3 w' G;have h4:=eL W (N+1) 0 _ _ (Z U z) h1;have h5:=G.heap h4 (λh=>by have:=h3 _ h;omega);refine⟨by rw[cc _ _ _ _ _ _ h5];rfl, ?_⟩;have h6:Ext (N<=·) w (W.setCell ⟨N+1,0,tD⟩ (Z U z)):=(Ext.of_below J).trans (Ext.set1 _ _ _ _) (λj hj=> .inl (by show N<=j;omega));exact(h6.trans G (λj hj=> .inl (by show N<=j;have:=h3 _ hj;omega))).below (by omega) (λk A=>A)
 have zr:=vi;simp only[jg,BB,mp] at zr;have BT:=zH zr;clear By wg uv xF BE vi zr
 (refine jD func53 rfl ?_
  simp only[ntmps53,List.size_toArray,fS,mp,Nat.reduceAdd,Nat.reduceSub,Array.replicate_succ,
   Array.replicate_zero,List.push_toArray,List.append_toArray,fc,jt])
 go_wp2_with fail
 go_step3
 go_upto_region 2 with(fail)
 rw[BT.out];clear BT;obtain⟨zv,xT,DE⟩:=vj.out W2 (aq _ _);have c0:=zR zv 0 (tP m.sA m.ss.length m.sC);have c1:=zR zv 1 (tP m.fA m.fs.length m.fC);have c2:=zR xT 0 (Z U 0);have c3:=eq _ _ 0 _ _ xT;have BY:=zH xT;clear zv xT DE b0 b1 hst
 by_cases g1:30<m.ss.length
 ·have ue:cm (R=2):=by unfold cm;rw[HR.out,cR (.inl g1)]
  clear HR
  go_wp2_with fail
  refine⟨[],rfl,by simp,by simp,Z U 2,λw' G=> ?_⟩;obtain⟨h1,J⟩:=zp.out W2 2 _ [] BY.out wi.out (by simp) w' G;exact⟨dh _ _ _ _ rfl h1,by rw[ue.out],by first|exact J|(rw[HN.out];exact J)⟩
 by_cases g2:60<m.fs.length
 ·have ue:cm (R=2):=by unfold cm;rw[HR.out,cR (.inr g2)]
  clear HR
  go_wp2_with fail
  refine⟨[],rfl,by simp,by simp,Z U 2,λw' G=> ?_⟩;obtain⟨h1,J⟩:=zp.out W2 2 _ [] BY.out wi.out (by simp) w' G;exact⟨dh _ _ _ _ rfl h1,by rw[ue.out],by first|exact J|(rw[HN.out];exact J)⟩
 have wj:cm (R=if dz m=tE then 6
  else if (bP m).all m.known=tG then 5
  else if aQ (codeF m) m.fs≠0 then aQ (codeF m) m.fs
  else bM (decide (0<=m.fnIx dG)&&(match m.fs[(m.fnIx dG).toNat]? with
   |some g=>decide (g.c.par=0)&& !g.c.rp
   |none=>tG)) 9):=by unfold cm;rw[HR.out,cE (by omega)]
 clear HR;have An:=zH (zJ m W2 (HM.out.mo.below (by rw[HN.out];exact wi.out)) HM.out.sl HM.out.fl HM.out.fd);obtain⟨tw,B4⟩:=zE (dz m);rw[B4] at An wj;have B5:cm (W2.heap[N]?=tB (ua m.cells 25 (0,0))):=(vj.out W2 (aq _ _)).1;clear B4;cases tw with
 |true=>
  have ue:cm (R=6):=by unfold cm;rw[wj.out,cR rfl]
  clear wj
  go_upto_region 4 with(fail)
  go_wp2_with (first
   |(refine ci rfl 25 _ rfl N rfl 25 m.cells (0,0) _ B5.out fk rfl (by kernel_rfl) ?_)
   |(go_at_call 94;refine An.out.mono ?_;rintro e w3 ⟨rfl,vm⟩;have q1:=(vj.out w3 (vm.mono (by omega))).2.1;have c2:w3.cell? ⟨N+1,0,tD⟩=tB (Z U 0):=(cc _ _ _ _ _ _ q1).trans rfl;have c3:=eq _ _ 0 _ _ q1;have DG:=zH q1;have ux:=zH vm;clear vm q1))
  refine⟨[],rfl,by simp,by simp,Z U 6,λw' G=> ?_⟩;obtain⟨h1,J⟩:=zp.out w3 6 _ [] DG.out (wi.out.trans (ux.out.mono (by omega))) (by simp) w' G;exact⟨dh _ _ _ _ rfl h1,by rw[ue.out],by first|exact J|(rw[HN.out];exact J)⟩
 |false=>
  have As:cm (R=if (bP m).all m.known=tG then 5
   else if aQ (codeF m) m.fs≠0 then aQ (codeF m) m.fs
   else bM (decide (0<=m.fnIx dG)&&(match m.fs[(m.fnIx dG).toNat]? with
    |some g=>decide (g.c.par=0)&& !g.c.rp
    |none=>tG)) 9):=by unfold cm;rw[wj.out];rfl
  clear wj
  go_upto_region 6 with(first
   |(refine ci rfl 25 _ rfl N rfl 25 m.cells (0,0) _ B5.out fk rfl (by kernel_rfl) ?_)
   |(go_at_call 94;refine An.out.mono ?_;rintro e w3 ⟨rfl,vm⟩;have B6:bh (N+3) W2 w3:=vm.mono (by omega);have ux:=zH B6;clear vm B6))
  have Fk:=ux.out.size;have B8:cm (w3.heap[N]?=tB (ua m.cells 25 (0,0))):=(vj.out w3 ux.out).1;have DH:cm (w3.heap[N+1]?=tB (ua #[Z U 0] 27 (0,0))):=(vj.out w3 ux.out).2.1;have B9:cm (w3.heap[N+2]?=tB (ua (jg m BB) 184 (0,0))):=(vj.out w3 ux.out).2.2;have DM:cm (bh N w w3):=wi.out.trans (ux.out.mono (by omega));obtain⟨B,hB⟩:=zE w3.heap.size;obtain⟨W5,vp⟩:=zE (w3.alloc (ua m.cells 25));have DO:cm (gd ac 95 #[tW m.cells] w3 λe w'=>e= ub (.func (.func 134) #[] #[tR (tB ⟨B,0,tD⟩)])/\w'=W5):=by
   rw[<-hB,<-vp];exact zY m w3
  have Cd:Ext (λ_=>mb) w3 W5:=by rw[<-vp];exact(Ext.refl _ _).alloc _
  have Fl:W5.heap.size=B+1:=by rw[<-vp];simp[hB]
  have Cl:W5.heap[B]?=tB (ua m.cells 25 (0,0)):=by rw[<-vp,<-hB];exact alloc_at _ _
  have Cp:=iV vp hB;have ya:cm (bh N w W5):=DM.out.trans (Cp.mono (by omega));have At:cm (Iter ac 134 #[tR (tB ⟨B,0,tD⟩)] wH (bP m) (nU N B) W5):=by
   have:=zV w W5 m B HM.out.mo (by rw[HN.out];exact ya.out) Cl HM.out.fd HM.out.vl HM.out.sl HM.out.fl;rw[HN.out] at this;exact this
  have yb:=zH Cd;clear Cd Cp Cl vp c0 c1 c2 c3
  go_upto_region 7 with(first
   |(refine ci rfl 25 _ rfl N rfl 25 m.cells (0,0) _ B8.out fk rfl (by kernel_rfl) ?_)
   |(go_at_call 95;refine DO.out.mono ?_;rintro e w6 ⟨rfl,CA⟩;rw[CA];clear CA))
  have DP:N+1<W5.heap.size:=by omega
  have Fm:N+3<=B:=by omega
  have Ax:cm (∀(W:World)(z:bp)(bs:bm bx),W.heap[N+1]?=tB (ua #[Z U z] 27 (0,0))->Ext (N<=·) w W->(∀b∈bs,N+2<=b)->∀w',Ext (·∈bs) W w'->w'.cell? ⟨N+1,0,tD⟩=tB (Z U z)/\bh N w w'):=by
   intro W z bs h1 J h3 w' G;have h5:=G.heap h1 (λh=>by have:=h3 _ h;omega);refine⟨by rw[cc _ _ _ _ _ _ h5];rfl, ?_⟩;exact(J.trans G (λj hj=> .inl (by show N<=j;have:=h3 _ hj;omega))).below (by omega) (λk A=>A)
  obtain⟨XS,AD⟩:=zE (bP m);have AE:=zH AD;rw[AD] at At;clear AD;refine jX (gf:=134) rfl func134 (by rfl) rfl At.out (aq _ _) ?hRd (λ_=>rfl) (RI m N XS W5) (λc _ C W=>RX m N W5 c C W) (λvq C W W' h G=>h.next DP G) ?hIC ?hIx (λk=>k=N+1) ?h0 ?hround ?hdone ?hstop
  case hRd=>
   rintro k (h|rfl)
   ·omega
   ·omega
  case hIC=>
   intro vq C W h k A;rcases h.own with e|⟨b,t,e,h1,J,h3⟩
   ·rw[e] at A
    have A:k=N+1:=A;subst A;exact⟨(bj.1 h.res).1,λh=>by rcases h with h|h<;>omega⟩
   ·rw[e] at A
    rcases A with A|A
    ·subst A
     exact⟨(bj.1 h.res).1,λh=>by rcases h with h|h<;>omega⟩
    ·subst A
     exact⟨(bj.1 h3).1,λh=>by rcases h with h|h<;>omega⟩
  case hIx=>
   intro c vq C W W' h G;exact⟨h.ret,G.heap h.res (λq=>by omega),h.ext.trans G (λj hj=> .inr hj.1),h.bad,h.own⟩
  case h0=>exact⟨yb.out.heap DH.out (λh=>h),Ext.refl _ _,by simp,.inl rfl⟩
  case hround=>
   rintro l vq ⟨xb,xs⟩ C W hl hI wk;unfold wH;rw[sI];simp only[aw,bt,bw];have HI:=zH hI;have DQ:=zH wk;have AF:XS[vq.length]?=tB (xb,xs):=by
    obtain⟨t,ht⟩:=wk;rw[<-ht];simp
   have Fo:=hI.ext.size;obtain⟨b,hb⟩:=zE W.heap.size;obtain⟨W6,yd⟩:=zE (W.alloc (ua #[tU xb,tM xs] 32));have Fr:∀(c:da cd),c.size=2->(dr ⟨b,0,tD⟩ [tU xb,tM xs] 0).run ac (W.alloc (ua c 32))= .ok () W6:=λc hc=>by
    rw[<-yd,<-hb];exact ct (P:=ac) W 32 c #[tU xb,tM xs] (by show _=tB 2;kernel_rfl) hc (by simp[cj])
   have CC:W6.heap[b]?=tB (ua #[tU xb,tM xs] 32 (0,0)):=by rw[<-yd,<-hb];exact alloc_at _ _
   have ye:Ext (λ_=>mb) W W6:=by rw[<-yd];exact(Ext.refl _ _).alloc _
   have DS:cm (RI m N XS W5 vq (λk=>k=N+1\/k=b) W6):=by
    have h:=HI.out;exact⟨ye.heap h.res (λh=>h),h.ext.trans ye (λ_ h=>h.elim),h.kn,.inr ⟨b,_,rfl,AF,by omega,CC⟩⟩
   have D0:cm (Ext C W W6):=ye.mono (λ_ h=>h.elim);have D1:=zH AF;have Ft:=zH yd;clear hI wk AF CC ye;obtain⟨F,hF⟩:∃F,F=ge.inRound l:=⟨_,rfl⟩
   have CD:cm (∀(n f:bx)(args:da cd)(w:World)(R:Ending->World->Prop),gd ac f args w R->CallsIn F n ac f args w R):=by
    intro n f args w R h;rw[hF];exact CallsIn.inRound l (callsIn_wide.2 h)
   have FA:F.round=tB l:=by rw[hF];rfl
   have FF:∀f,F.fn f:=λf=>by rw[hF];trivial
   have FG:F.depth=tD:=by rw[hF];rfl
   rw[<-hF];clear hF
   gi_wp2
   refine⟨λk=>k=N+1\/k=b, ?_,DS.out,D0.out, ?_⟩
   ·rintro k (rfl|rfl)
    ·exact .inl HI.out.res_own
    ·exact .inr (by omega)
   intro W₂ va D2;have uv:W₂.heap[b]?=tB (ua #[tU xb,tM xs] 32 (0,0)):=by
    rcases va.own with e|⟨b',t',e,h1,J,h3⟩
    ·have q:=congrFun e b
     simp at q;omega
    ·have q:=congrFun e b
     simp at q;rcases q with q|q
     ·omega
     ·subst q
      rw[D1.out] at h1;obtain rfl:=cD h1;exact h3
   have CH:W₂.heap[N+2]?=tB (ua (jg m BB) 184 (0,0)):=va.ext.heap (yb.out.heap B9.out (λh=>h)) (by omega);have CM:bh N W5 W₂:=va.ext.below (by omega) (λk A=>by omega);have D3:cm (bh N w W₂):=ya.out.trans CM;have D4:=eq _ _ 0 _ _ va.res;have Ek:W₂.cell? ⟨N+1,0,tD⟩=tB (Z U 0):=(cc _ _ _ _ _ _ va.res).trans rfl;have t0:W₂.cell? ⟨b,0,tD⟩=tB (tU xb):=(cc _ _ _ _ _ _ uv).trans rfl;have t1:W₂.cell? ⟨b,1,tD⟩=tB (tM xs):=(cc _ _ _ _ _ _ uv).trans rfl;obtain⟨y0,y1,y2,y3,y4,y5,y6,y7,y8,y9⟩:=jC.of CH;simp only[BB,mp] at y2 y3 y4 y5 y6 y7 y8 y9;obtain⟨d,hd⟩:=zE (m.known (xb,xs));have CN:cm (zP 96 #[tW (jg m BB),tW #[tU xb,tM xs]] W₂ (tU d)):=by
    rw[<-hd];exact zA m BB xb xs W₂ (HM.out.mo.below (by rw[HN.out];exact D3.out))
   have HD:=zH hd;have wl:=zH va;have F0:=(bj.1 uv).1;clear uv CH CM va hd D2;cases d with
   |true=>
    gi_wp2_with (gi_at_call 96;refine(CD.out _ _ _ _ _ CN.out).mono ?_;rintro e w7 ⟨rfl,ud⟩;have vc:=zH ud;clear ud)
    have h7:Ext (λ_=>mb) W₂ w7:=Ext.of_below_size vc.out;refine⟨λk=>k=N+1,λk A=> .inl (.inl A),⟨h7.heap wl.out.res (λh=>h),wl.out.ext.trans h7 (λ_ h=>h.elim),λt ht=> ?_,.inl rfl⟩,h7.mono (λ_ h=>h.elim)⟩;rcases cT.1 ht with h|h
    ·exact wl.out.kn t h
    ·simp at h;subst h;exact HD.out
   |false=>
    gi_wp2_with (gi_at_call 96;refine(CD.out _ _ _ _ _ CN.out).mono ?_;rintro e w7 ⟨rfl,ud⟩;have z7:w7.cell? ⟨N+1,0,tD⟩=tB (Z U 0):=(ud.cell (p:=⟨N+1,0,tD⟩) (by show N+1<_;omega)).trans Ek;have f7:w7.frozen? ⟨N+1,0,tD⟩=tG:=(ud.frozen (p:=⟨N+1,0,tD⟩) (by show N+1<_;omega)).trans D4;have vc:=zH ud;clear ud)
    have h7:Ext (λ_=>mb) W₂ w7:=Ext.of_below_size vc.out;have h8:Ext (·=N+1) w7 (w7.setCell ⟨N+1,0,tD⟩ (Z U 5)):=Ext.set1 _ _ _ _;refine⟨λk=>k=N+1,λk A=> .inl (.inl A),⟨rfl, ?_,(wl.out.ext.trans h7 (λ_ h=>h.elim)).trans h8 (λj hj=> .inl hj), ?_,rfl⟩,(h7.mono (λ_ h=>h.elim)).trans h8 (λj hj=> .inl (.inl hj))⟩
    ·have:=eL w7 (N+1) 0 _ _ (Z U 5) (h7.heap wl.out.res (λh=>h))
     simpa using this
    ·rw[AE.out,m9]
     exact⟨(xb,xs),DQ.out.subset (by simp),by rw[HD.out];simp⟩
  case hstop=>
   intro D c vq C W hD AG wk EV vr;obtain⟨rfl,ur,CT,C3,E0⟩:=EV;have ue:cm (R=5):=by unfold cm;rw[As.out,cR C3]
   have yi:=zH vr;have vd:cm (Ext (N<=·) w W):=(Ext.of_below ya.out).trans (CT.mono (M':=(N<=·)) (λk A=>by show N<=k;omega)) (λj hj=> .inl hj);have AH:=zH ur;clear ur CT C3 E0 vr wk
   go_wp2_with fail
   refine⟨[D],rfl,by simp,by intro b hb;simp at hb;subst hb;exact yi.out,Z U 5,λw' G=> ?_⟩;obtain⟨h1,J⟩:=Ax.out W 5 [D] AH.out vd.out (by simp;omega) w' G;exact⟨dh _ _ _ _ rfl h1,by rw[ue.out],by first|exact J|(rw[HN.out];exact J)⟩
  case hdone=>
   intro D C W hD AG hI vr;have C4:cm (∀t∈bP m,m.known t=tE):=by rw[AE.out];exact hI.kn
   have yk:cm (R=if aQ (codeF m) m.fs≠0 then aQ (codeF m) m.fs
    else bM (decide (0<=m.fnIx dG)&&(match m.fs[(m.fnIx dG).toNat]? with
     |some g=>decide (g.c.par=0)&& !g.c.rp
     |none=>tG)) 9):=by
    unfold cm;rw[As.out,cE];rw[js.2 C4.out];decide
   have yi:=zH vr;have vd:cm (Ext (N<=·) w W):=(Ext.of_below ya.out).trans (hI.ext.mono (M':=(N<=·)) (λk A=>by show N<=k;omega)) (λj hj=> .inl hj);have AH:=zH hI.res;have AI:cm (W.heap[N]?=tB (ua m.cells 25 (0,0))):=hI.ext.heap (yb.out.heap B8.out (λh=>h)) (by omega);have E3:cm (W.heap[N+2]?=tB (ua (jg m BB) 184 (0,0))):=hI.ext.heap (yb.out.heap B9.out (λh=>h)) (by omega);have F2:N+3<=W.heap.size:=by have:=hI.ext.size;omega
   have Ge:cm (bh N w W):=vd.out.below (by omega) (λk A=>A);have Gk:cm (D<W.heap.size):=(bj.1 vr).1;have m0:W.cell? ⟨N,0,tD⟩=tB (tP m.sA m.ss.length m.sC):=(cc _ _ _ _ _ _ AI.out).trans rfl;have m1:W.cell? ⟨N,1,tD⟩=tB (tP m.fA m.fs.length m.fC):=(cc _ _ _ _ _ _ AI.out).trans rfl;have GB:=zH AG;clear hI vr AG As At AE
   go_wp2_with fail
   go_step3
   go_wp2_with fail
   go_loopw [34] (λc wr=>∃(j:bx) (g:Fn),j<=m.fs.length/\c= Z U (j:bp)/\(∀f∈m.fs.take j,codeF m f=0)/\Ext (λk=>k=N+1\/k=N+2) W wr/\wr.heap[N+1]?=tB (ua #[Z U 0] 27 (0,0))/\wr.heap[N+2]?=tB (ua (jg m g) 184 (0,0))) (λc _=>m.fs.length-(intOf c).toNat)
   case atStart=>exact⟨0,BB,cN _,rfl,by simp,Ext.refl _ _,AH.out,E3.out⟩
   case round=>
    clear m0 m1;obtain⟨j,g,hj,rfl,hz,G,ur,ws⟩:=hrel;have HZ:=zH hz;have HX:=zH G;have E4:=zH ur;have GC:=zH ws;have GE:=G.size;have AK:cm (bh N w wr):=(vd.out.trans (G.mono (M':=(N<=·)) (λk A=>by show N<=k;omega)) (λj hj=> .inl hj)).below (by omega) (λk A=>A)
    by_cases AM:j<m.fs.length
    ·obtain⟨f,hf⟩:∃f,m.fs[j]?=tB f:=⟨_,am AM⟩
     have yp:=cf hf;obtain⟨fb,vf,wx,AN,vu⟩:=HM.out.mo.frow (by intro e;rw[e] at AM;simp at AM);have yq:fb<N:=by omega
     have C5:cm (∀k u,f.cells.toList[k]?=tB u->wr.cell? ((⟨fb,vf+j*8,tD⟩:Addr).add k)=tB u):=λk u hu=>by
      rw[dc,AK.out.cell (p:=⟨fb,_,tD⟩) yq];exact vu j f hf k u hu
     obtain⟨P,hP⟩:=zE wr.heap.size;obtain⟨W3,xf⟩:=zE (wr.alloc (ua f.cells 38));have GF:∀(c:da cd),c.size=8->(dr ⟨P,0,tD⟩ f.cells.toList 0).run ac (wr.alloc (ua c 38))= .ok () W3:=λc hc=>by
      rw[<-xf,<-hP];exact ct (P:=ac) wr 38 c f.cells (by show _=tB 8;kernel_rfl) hc (fH f)
     have yr:Ext (λ_=>mb) wr W3:=by rw[<-xf];exact(Ext.refl _ _).alloc _
     have C6:cm (W3.heap[P]?=tB (ua f.cells 38 (0,0))):=by unfold cm;rw[<-xf,<-hP];exact alloc_at _ _
     have yv:=yr.heap ws (λh=>h);have GO:W3.heap.size=P+1:=by rw[<-xf];simp[hP]
     obtain⟨W4,yy⟩:=zE (W3.setCells (N+2) 2 f.cells.toList);have GP:(dr ⟨N+2,2,tD⟩ f.cells.toList 0).run ac W3= .ok () W4:=by
      rw[<-yy];refine run_storeCells_cells (P:=ac) (N+2) 2 f.cells.toList 0 W3 (λk A=> ?_) (λk A=>eq _ _ _ _ _ yv) (λv hv=> ?_)
      ·rw[cc _ _ _ _ _ _ yv]
       have:k<8:=A;rw[Array.getElem?_eq_getElem (by show 2+0+k<10;omega)];rfl
      ·have:=fH f
       rw[<-ld,js] at this;exact this v hv
     have C7:W4.heap[N+2]?=tB (ua (jg m f) 184 (0,0)):=by
      rw[<-yy,<-BC m g f];exact oP _ _ _ _ yv
     have AS:Ext (·=N+2) W3 W4:=by rw[<-yy];exact(World.keptBut_ext (N+2) _ _ _)
     have Dd:W4.heap[N+1]?=tB (ua #[Z U 0] 27 (0,0)):=AS.heap (yr.heap ur (λh=>h)) (by omega);have yW:cm (Ext (λk=>k=N+1\/k=N+2) W W4):=(HX.out.trans yr (λ_ h=>h.elim)).trans AS (λk A=> .inl (.inr A));have E6:cm (bh N w W4):=(vd.out.trans (yW.out.mono (M':=(N<=·)) (λk A=>by show N<=k;omega)) (λj hj=> .inl hj)).below (by omega) (λk A=>A);have AT:=zH C7;have Dg:=zH Dd;have GS:=yW.out.size;obtain⟨z,AW⟩:=zE (codeF m f);have Do:cm (zP 97 #[tW (jg m f)] W4 (Z U z)):=by
      rw[<-AW];have vh:=HM.out.mo.below (by rw[HN.out];exact E6.out);exact Bv m f W4 ⟨vh,vh.fin f yp,HM.out.al f yp,λv hv=>C4.out _ (by
       obtain⟨h0,h1⟩:=eF.1 hv;obtain⟨k,rfl⟩:∃k:bx,v=(k:bp):=⟨v.toNat,by omega⟩
       obtain⟨x,G⟩:∃x,f.vs[k]?=tB x:=⟨_,am (by omega)⟩
       have e:az f.vs (k:bp)=x.ty:=by unfold az;rw[cP,G]
       rw[e];unfold bP;exact cT.2 (.inr (em.2 ⟨f,yp,pn _ (dy.2 ⟨x,cf G,rfl⟩)⟩)))⟩
     have A0:=zH AW;have HF:=zH hf;have GT:(j:bp)<(m.fs.length:bp):=by omega
     rw[wx];clear hz G ur ws hf yp AN vu xf yr yv yy C7 AS Dd AW
     by_cases zc:z=0
     ·subst zc
      go_wp2_with (first
       |(refine aG rfl 38 _ rfl ⟨fb,vf+j*8,tD⟩ rfl f.cells _ C5.out cQ rfl (by kernel_rfl) ?_)
       |(refine ci rfl 38 _ rfl P rfl 38 f.cells (0,0) _ C6.out cQ rfl (by kernel_rfl) ?_)
       |(refine ci rfl 184 _ rfl (N+2) rfl 184 (jg m f) (0,0) _ AT.out cI rfl (by kernel_rfl) ?_)
       |(go_at_call 97;refine Do.out.mono ?_;rintro e w7 ⟨rfl,ud⟩;have q7:=kR ud Dg.out;have z7:w7.cell? ⟨N+1,0,tD⟩=tB (Z U 0):=(cc _ _ _ _ _ _ q7).trans rfl;have f7:=eq _ _ 0 _ _ q7;have n7:=(bj.1 q7).1;have A2:=zH q7;have vc:=zH ud;clear ud q7))
      have vx:Ext (·=N+1) w7 (w7.setCell ⟨N+1,0,tD⟩ (Z U 0)):=Ext.set1 _ _ _ _;have zd:Ext (λ_=>mb) W4 w7:=Ext.of_below_size vc.out;refine⟨⟨j+1,f,by omega,by go_num,dE (p:=λf=>codeF m f=0) HZ.out HF.out A0.out,(yW.out.trans zd (λ_ h=>h.elim)).trans vx (λk A=> .inl (.inl A)), ?_,vx.heap (zd.heap AT.out (λh=>h)) (by omega)⟩,by simp[intOf];omega⟩;have:=eL w7 (N+1) 0 _ _ (Z U 0) A2.out;simpa using this
     ·have ue:cm (R=z):=by
       unfold cm;have e:=kw (f:=codeF m) HZ.out HF.out (by rw[A0.out];exact zc);rw[yk.out,e,A0.out,cR zc]
      have GW:(z==0)=tG:=by rw[dp];exact zc
      go_wp2_with (first
       |(refine aG rfl 38 _ rfl ⟨fb,vf+j*8,tD⟩ rfl f.cells _ C5.out cQ rfl (by kernel_rfl) ?_)
       |(refine ci rfl 38 _ rfl P rfl 38 f.cells (0,0) _ C6.out cQ rfl (by kernel_rfl) ?_)
       |(refine ci rfl 184 _ rfl (N+2) rfl 184 (jg m f) (0,0) _ AT.out cI rfl (by kernel_rfl) ?_)
       |(go_at_call 97;refine Do.out.mono ?_;rintro e w7 ⟨rfl,ud⟩;have q7:=kR ud Dg.out;have z7:w7.cell? ⟨N+1,0,tD⟩=tB (Z U 0):=(cc _ _ _ _ _ _ q7).trans rfl;have f7:=eq _ _ 0 _ _ q7;have n7:=(bj.1 q7).1;have A2:=zH q7;have vc:=zH ud;clear ud q7))
      have vx:Ext (·=N+1) w7 ((w7.setCell ⟨N+1,0,tD⟩ (Z U z)).setCell ⟨N+1,0,tD⟩ (Z U z)):=(Ext.set1 _ _ _ _).trans (Ext.set1 _ _ _ _) (λj hj=> .inl hj);have zd:Ext (λ_=>mb) W4 w7:=Ext.of_below_size vc.out;have xj:Ext (λk=>k=N+1\/k=N+2) W ((w7.setCell ⟨N+1,0,tD⟩ (Z U z)).setCell ⟨N+1,0,tD⟩ (Z U z)):=(yW.out.trans zd (λ_ h=>h.elim)).trans vx (λk A=> .inl (.inl A));have A4:((w7.setCell ⟨N+1,0,tD⟩ (Z U z)).setCell ⟨N+1,0,tD⟩ (Z U z)).heap[N+1]?=tB (ua #[Z U z] 27 (0,0)):=by
       have q1:=eL w7 (N+1) 0 _ _ (Z U z) A2.out;have q2:=eL _ (N+1) 0 _ _ (Z U z) q1;simpa using q2
      refine⟨[D],rfl,by simp,by intro b hb;simp at hb;subst hb;exact xj.heap yi.out (by omega),Z U z,λw' G=> ?_⟩;obtain⟨h1,J⟩:=Ax.out _ z [D] A4 (vd.out.trans (xj.mono (M':=(N<=·)) (λk A=>by show N<=k;omega)) (λj hj=> .inl hj)) (by simp;omega) w' G;exact⟨dh _ _ _ _ rfl h1,by rw[ue.out],by first|exact J|(rw[HN.out];exact J)⟩
    ·have E7:j=m.fs.length:=by omega
     subst E7;rw[de] at hz;have xl:cm (R=bM (decide (0<=m.fnIx dG)&&(match m.fs[(m.fnIx dG).toNat]? with
      |some g=>decide (g.c.par=0)&& !g.c.rp
      |none=>tG)) 9):=by
      unfold cm;rw[yk.out,iH hz,cE (by simp)]
     have z0:wr.cell? ⟨N+1,0,tD⟩=tB (Z U 0):=(cc _ _ _ _ _ _ ur).trans rfl;have f0:=eq _ _ 0 _ _ ur;have zj:wr.heap[N]?=tB (ua m.cells 25 (0,0)):=G.heap AI.out (by omega);have m0:wr.cell? ⟨N,0,tD⟩=tB (tP m.sA m.ss.length m.sC):=(cc _ _ _ _ _ _ zj).trans rfl;have m1:wr.cell? ⟨N,1,tD⟩=tB (tP m.fA m.fs.length m.fC):=(cc _ _ _ _ _ _ zj).trans rfl;have vh:=HM.out.mo.below (by rw[HN.out];exact AK.out);obtain⟨kx,vy⟩:=zE (m.fnIx dG);rw[vy] at xl;have xo:cm (zP 98 #[tW m.cells,tM ⟨#[109,97,105,110]⟩] wr (Z U kx)):=by
      rw[<-vy];exact zy m dG wr vh.nf vh.frow
     have A5:cm (∀(w8:World)(z:bp),bh wr.heap.size wr w8->(w8.setCell ⟨N+1,0,tD⟩ (Z U z)).heap[D]?=tB (.deferred (tB []))/\∀w',Ext (·∈[D]) (w8.setCell ⟨N+1,0,tD⟩ (Z U z)) w'->w'.cell? ⟨N+1,0,tD⟩=tB (Z U z)/\bh N w w'):=by
      intro w8 z uc;have Ds:Ext (λ_=>mb) wr w8:=Ext.of_below_size uc;have vx:Ext (·=N+1) w8 (w8.setCell ⟨N+1,0,tD⟩ (Z U z)):=Ext.set1 _ _ _ _;have xj:Ext (λk=>k=N+1\/k=N+2) W (w8.setCell ⟨N+1,0,tD⟩ (Z U z)):=(HX.out.trans Ds (λ_ h=>h.elim)).trans vx (λk A=> .inl (.inl A));have A4:=eL w8 (N+1) 0 _ _ (Z U z) (Ds.heap E4.out (λh=>h));refine⟨xj.heap yi.out (by omega),λw' G=> ?_⟩;exact Ax.out _ z [D] (by simpa using A4) (vd.out.trans (xj.mono (M':=(N<=·)) (λk A=>by show N<=k;omega)) (λj hj=> .inl hj)) (by simp;omega) w' G
     have G0:=zH ur;have we:N+1<wr.heap.size:=by omega
     rcases nR (λf:Fn=>f.c.nm==dG) m.fs with e|⟨k,f,e,hf,_⟩
     ·have A6:kx= -1:=by rw[<-vy];exact e
      subst A6;have ue:cm (R=9):=by unfold cm;rw[xl.out];rfl
      clear hz G ur ws vy zj vh yk xl e
      go_wp2_with (first
       |(go_at_call 98;refine xo.out.mono ?_;rintro e w8 ⟨rfl,uc⟩;have z8:w8.cell? ⟨N+1,0,tD⟩=tB (Z U 0):=(uc.cell (p:=⟨N+1,0,tD⟩) we).trans z0;have f8:w8.frozen? ⟨N+1,0,tD⟩=tG:=(uc.frozen (p:=⟨N+1,0,tD⟩) we).trans f0;have xp:=zH uc;clear uc)
       |(go_at_call 99;refine(aF _ _ _).mono ?_;rintro e w9 ⟨rfl,rfl⟩))
      obtain⟨h3,h4⟩:=A5.out w8 9 xp.out;refine⟨[D],rfl,by simp,by intro b hb;simp at hb;subst hb;exact h3,Z U 9,λw' G=> ?_⟩;obtain⟨h1,J⟩:=h4 w' G;exact⟨dh _ _ _ _ rfl h1,by rw[ue.out],by first|exact J|(rw[HN.out];exact J)⟩
     ·have A6:kx=(k:bp):=by rw[<-vy];exact e
      subst A6;have DA:=(ap.1 hf).1;have G1:(k:bp)<(m.fs.length:bp):=by omega
      have ue:cm (R=bM (decide (f.c.par=0)&& !f.c.rp) 9):=by
       unfold cm;rw[xl.out,cP,hf,ef (by omega)];rfl
      obtain⟨fb,vf,wx,AN,vu⟩:=HM.out.mo.frow (by intro e;rw[e] at DA;simp at DA);have yq:fb<N:=by omega
      have Bk:cm (∀W8,bh wr.heap.size wr W8->W8.cell? ⟨fb,vf+k*8+1,tD⟩=tB (Z U f.c.par)/\W8.cell? ⟨fb,vf+k*8+3,tD⟩=tB (tU f.c.rp)/\W8.cell? ⟨N,1,tD⟩=tB (tP (tB ⟨fb,vf,tD⟩) m.fs.length m.fC)/\N<W8.heap.size/\fb<W8.heap.size):=by
       intro W8 h8;have DB:bh N w W8:=AK.out.trans (h8.mono (by omega));have G2:=h8.size;refine⟨?_, ?_, ?_,by omega,by omega⟩
       ·rw[DB.cell (p:=⟨fb,_,tD⟩) yq];exact vu k f hf 1 _ rfl
       ·rw[DB.cell (p:=⟨fb,_,tD⟩) yq];exact vu k f hf 3 _ rfl
       ·rw[h8.cell (p:=⟨N,1,tD⟩) (by show N<_;omega),<-wx];exact m1
      simp only[Mo.cells] at xo;rw[wx] at xo m1;clear hz G ur ws vy zj vh yk xl e AN vu hf wx
      by_cases hp:f.c.par=0
      ·rw[hp] at Bk
       have Bm:cm (R=bM (!f.c.rp) 9):=by unfold cm;rw[ue.out,hp];rfl
       go_wp2_with (first
        |(go_at_call 98;refine xo.out.mono ?_;rintro e w8 ⟨rfl,uc⟩;have z8:w8.cell? ⟨N+1,0,tD⟩=tB (Z U 0):=(uc.cell (p:=⟨N+1,0,tD⟩) we).trans z0;have f8:w8.frozen? ⟨N+1,0,tD⟩=tG:=(uc.frozen (p:=⟨N+1,0,tD⟩) we).trans f0;obtain⟨u1,u2,u3,u4,u5⟩:=Bk.out w8 uc;have xp:=zH uc;clear uc)
        |(go_at_call 99;refine(aF _ _ _).mono ?_;rintro e w9 ⟨rfl,rfl⟩))
       obtain⟨h3,h4⟩:=A5.out w8 (bM (!f.c.rp) 9) xp.out;refine⟨[D],rfl,by simp,by intro b hb;simp at hb;subst hb;exact h3,Z U (bM (!f.c.rp) 9),λw' G=> ?_⟩;obtain⟨h1,J⟩:=h4 w' G;exact⟨dh _ _ _ _ rfl h1,by rw[Bm.out],by first|exact J|(rw[HN.out];exact J)⟩
      ·have Bm:cm (R=9):=by unfold cm;rw[ue.out,cL hp];rfl
       have G3:(f.c.par==0)=tG:=by rw[dp];exact hp
       go_wp2_with (first
        |(go_at_call 98;refine xo.out.mono ?_;rintro e w8 ⟨rfl,uc⟩;have z8:w8.cell? ⟨N+1,0,tD⟩=tB (Z U 0):=(uc.cell (p:=⟨N+1,0,tD⟩) we).trans z0;have f8:w8.frozen? ⟨N+1,0,tD⟩=tG:=(uc.frozen (p:=⟨N+1,0,tD⟩) we).trans f0;obtain⟨u1,u2,u3,u4,u5⟩:=Bk.out w8 uc;have xp:=zH uc;clear uc)
        |(go_at_call 99;refine(aF _ _ _).mono ?_;rintro e w9 ⟨rfl,rfl⟩))
       obtain⟨h3,h4⟩:=A5.out w8 9 xp.out;refine⟨[D],rfl,by simp,by intro b hb;simp at hb;subst hb;exact h3,Z U 9,λw' G=> ?_⟩;obtain⟨h1,J⟩:=h4 w' G;exact⟨dh _ _ _ _ rfl h1,by rw[Bm.out],by first|exact J|(rw[HN.out];exact J)⟩
end
end Go.Proofs.YtjomgckjhcfbgaaGreat
