/- Walks. -/
import Derived.Test.YtjomgckjhcfbgaaGreatU9
import Derived.Test.YtjomgckjhcfbgaaGreatU11
import Derived.Test.YtjomgckjhcfbgaaGreatU12
set_option maxRecDepth 100000
set_option maxHeartbeats 64000000
set_option linter.all false
namespace Go.Proofs.YtjomgckjhcfbgaaGreat
open Go.RowKit
open Go.Proofs.Tryz renaming prog→am,underlying42→cD,underlying38→cQ,underlying25→fx
open _root_.List renaming getElem?_eq_getElem→ap,getElem?_eq_some_iff→bl,setIfInBounds_toArray→bp,mem_of_getElem?→cd,set_cons_zero→cn,set_cons_succ→co,take_length→cR,mem_append→cX,mem_cons→gh,mem_map→gi,all_eq_true→gA,mem_cons_of_mem→ie,mem_flatMap→kq,all_eq_false→m6
open Go.RowKit.Below renaming refl→aq
open _root_ renaming Int→aw,Nat→bh,if_neg→bx,decide_eq_false→cv,if_pos→cI,beq_eq_false_iff_ne→cT,decide_eq_true→cV,Array→eA,and_true→pf
open Go.RowKit renaming Below→aE,Hid→cj,intOf→de
open Go renaming cell_of_row→bw,wpList_load_row→cm,run_storeCells_new→cx,Value→cA,wpQuiet_nil→dj,storeCells→dt,Addr→fS
open _root_.Nat renaming zero_le→cN
open Go.Addr renaming add_lit→cY
open _root_.Option.some renaming injEq→dd
open Go.Act renaming put→eh
open Go.Addr.mk renaming injEq→eR
open _root_.Int renaming toNat_natCast→eW
open _root_.Bool renaming not_false→rj,not_eq_true'→se,not_true→sx,true→tP,false→tR
open _root_.Option renaming some→tG,none→tM
open Go.Value renaming string→tS,slice→tU,bool→ua,agg→ub,int→Z
open Go.Obj renaming cells→uc
open Go.IntKind renaming i64→U
open Tryz
theorem AB {m:Mo}{s:St}{y:Fd}(d:s∈m.ss)(e:y∈s.fs)(h:m.known y.ty=tR):(!(bV m).all m.known)=tP:=by
 rw[se,m6];exact⟨y.ty,cX.2 (.inl (kq.2 ⟨s,d,gi.2 ⟨y,e,rfl⟩⟩)),by simp[h]⟩
theorem Eu {m:Mo}{f:Fn}(d:f∈m.fs)(h:m.known f.ret=tR):(!(bV m).all m.known)=tP:=by
 rw[se,m6];exact⟨f.ret,cX.2 (.inr (kq.2 ⟨f,d,by simp⟩)),by simp[h]⟩
theorem Ev {m:Mo}{f:Fn}{y:Vr}(d:f∈m.fs)(e:y∈f.vs)(h:m.known y.ty=tR):(!(bV m).all m.known)=tP:=by
 rw[se,m6];exact⟨y.ty,cX.2 (.inr (kq.2 ⟨f,d,ie _ (gi.2 ⟨y,e,rfl⟩)⟩)),by simp[h]⟩
theorem Ew {m:Mo}(o:∀s∈m.ss,∀y∈s.fs,m.known y.ty=tP)(g:∀f∈m.fs,m.known f.ret=tP/\∀y∈f.vs,m.known y.ty=tP):(!(bV m).all m.known)=tR:=by
 rw[Bool.not_eq_false',gA];intro t d;rcases cX.1 d with h|h
 ·obtain⟨s,q,d⟩:=kq.1 h
  obtain⟨y,e,rfl⟩:=gi.1 d;exact o s q y e
 ·obtain⟨f,j,d⟩:=kq.1 h
  rcases gh.1 d with rfl|d
  ·exact(g f j).1
  ·obtain⟨y,e,rfl⟩:=gi.1 d
   exact(g f j).2 y e
theorem tq (m:Mo)(w:World)(vu:m.inn w)(zv:m.ss.length<=90000)(An:m.fs.length<=90000)(vx:∀s∈m.ss,s.fs.length<=90000)(vy:∀f∈m.fs,f.vs.length<=90000):
  zP 48 #[ub m.cells] w (ua (!(bV m).all m.known)):=by
 obtain⟨R,hR⟩:=zE (!(bV m).all m.known);rw[hR];have HR:=zH hR;obtain⟨N,hN⟩:=zE w.heap.size;obtain⟨W1,vf⟩:=zE (w.alloc (uc m.cells 25));have we:=il vf;have xt:W1.heap.size=N+1:=by rw[<-vf];simp[hN]
 have xF:W1.heap[N]?=tG (uc m.cells 25 (0,0)):=by rw[<-vf,<-hN];exact alloc_at _ _
 have J:cj (∀W,aE W1.heap.size W1 W->W.cell? ⟨N,0,tM⟩=tG (tU m.sA m.ss.length m.sC)/\W.cell? ⟨N,1,tM⟩=tG (tU m.fA m.fs.length m.fC)/\m.inn W/\aE w.heap.size w W):=λW hW=>by
  have q1:=(hW.block N (by omega)).trans xF;have h3:=we.trans (hW.mono we.size);exact⟨by rw[bw _ _ _ _ _ _ q1];rfl,by rw[bw _ _ _ _ _ _ q1];rfl,vu.below h3,h3⟩
 have wg:cj (∀W,aE W1.heap.size W1 W->∀t:Ty,zP 85 #[ub #[tU m.sA m.ss.length m.sC,tU m.fA m.fs.length m.fC],ub #[ua t.1,tS t.2]] W (ua (m.known t))):=λW hW t=>ym m t.1 t.2 W vu.ns (J.out W hW).2.2.1.srow;have ye:=zH vx;have yi:=zH vy;have wj:=vf;simp only[Mo.cells] at wj;have yk:=zH wj;have At:=zH xt;simp only[Mo.cells];clear vu vx vy vf wj we xF hR xt;obtain⟨c0,c1,_,_⟩:=J.out W1 (aq _ _);go_enter func48,ntmps48
 go_upto_region 1 with(fail)
 rw[yk.out]
 go_wp2_with fail
 go_loopw [3] (λk wr=>∃j:bh,j<=m.ss.length/\k= Z U (j:aw)/\(∀s∈m.ss.take j,∀y∈s.fs,m.known y.ty=tP)/\aE W1.heap.size W1 wr) (λk _=>m.ss.length-(de k).toNat)
 case atStart=>exact⟨0,cN _,rfl,by simp,aq _ _⟩
 case round=>
  rename World=>wo;clear c0 c1;obtain⟨j,hj,rfl,z,K⟩:=hrel;obtain⟨c0,c1,ur,vc⟩:=J.out wo K;have HZ:=zH z;have HB:=zH K
  by_cases vh:j<m.ss.length
  ·obtain⟨s,A⟩:∃y,m.ss[j]?=tG y:=⟨_,ap vh⟩
   have vm:=cd A;obtain⟨g,o,hA,yp,q1⟩:=ur.srow (by intro e;rw[e] at vh;simp at vh);have u:cj (∀W,aE W1.heap.size W1 W->W.cell? ⟨N,0,tM⟩=tG (tU (tG ⟨g,o,tM⟩) m.ss.length m.sC)/\W.cell? ⟨N,1,tM⟩=tG (tU m.fA m.fs.length m.fC)/\W.cell? ⟨g,o+j*4+1,tM⟩=tG (tU s.s.fA s.fs.length s.s.fC)/\s.inn W):=λW hW=>by
    obtain⟨k0,k1,k2,_⟩:=J.out W hW;obtain⟨g2,yq,hA2,_,x⟩:=k2.srow (by intro e;rw[e] at vh;simp at vh);rw[hA] at hA2;simp only[dd,eR,pf] at hA2;refine⟨by rw[<-hA];exact k0,k1, ?_,k2.sin s vm⟩;rw[<-(k2.sin s vm).nf,hA2.1,hA2.2];exact x j s A 1 _ rfl
   have Ax:(j:aw)<(m.ss.length:aw):=by omega
   have HS:=zH A;have yr:=zH vm;have vx:=ye.out s vm;have HA:=zH hA;clear z K vc A vm ur c0 c1 q1 hA;obtain⟨c0,c1,c2,_⟩:=u.out wo HB.out
   go_wp2_with fail
   clear c0 c1 c2
   go_loopw [4] (λk wr=>∃i:bh,i<=s.fs.length/\k= Z U (i:aw)/\(∀y∈s.fs.take i,m.known y.ty=tP)/\aE W1.heap.size W1 wr) (λk _=>s.fs.length-(de k).toNat)
   case atStart=>exact⟨0,cN _,rfl,by simp,HB.out⟩
   case round=>
    obtain⟨i,hi,rfl,E,ue⟩:=hrel;have wk:=zH E;have uv:=zH ue;obtain⟨c0,c1,c2,wl⟩:=u.out wr ue
    by_cases up:i<s.fs.length
    ·obtain⟨y,hy⟩:∃y,s.fs[i]?=tG y:=⟨_,ap up⟩
     obtain⟨f1,fo,vp,vq,x⟩:=wl.row (by intro e;rw[e] at up;simp at up);have yv:(i:aw)<(s.fs.length:aw):=by omega
     have HY:=zH hy;obtain⟨d,G⟩:=zE (m.known y.ty);have vr:=zH G;have v:cj (∀p:BW wr,aE W1.heap.size W1 p.w):=λp=>uv.out.trans (p.h.mono uv.out.size);have HC:cj (∀p:BW wr,zP 85 #[ub #[tU (tG ⟨g,o,tM⟩) m.ss.length m.sC,tU m.fA m.fs.length m.fC],ub #[ua y.ptr,tS y.tgt]] p.w (ua d)):=λp=>by
      rw[<-HA.out,<-G];exact wg.out p.w (v.out p) y.ty
     have m0:∀p:BW wr,p.w.cell? ⟨N,0,tM⟩=tG (tU (tG ⟨g,o,tM⟩) m.ss.length m.sC):=λp=>(u.out p.w (v.out p)).1;have m1:∀p:BW wr,p.w.cell? ⟨N,1,tM⟩=tG (tU m.fA m.fs.length m.fC):=λp=>(u.out p.w (v.out p)).2.1;have m2:∀p:BW wr,p.w.cell? ⟨g,o+j*4+1,tM⟩=tG (tU (tG ⟨f1,fo,tM⟩) s.fs.length s.s.fC):=λp=>by rw[<-vp];exact(u.out p.w (v.out p)).2.2.1
     have m3:∀p:BW wr,p.w.cell? ⟨f1,fo+i*5+1,tM⟩=tG (ua y.ptr):=λp=>by rw[p.h.cell (p:=⟨f1,_,tM⟩) vq];exact x i y hy 1 _ rfl
     have m4:∀p:BW wr,p.w.cell? ⟨f1,fo+i*5+1+1,tM⟩=tG (tS y.tgt):=λp=>by rw[p.h.cell (p:=⟨f1,_,tM⟩) vq];exact x i y hy 2 _ rfl
     clear E ue wl hy G vp x
     go_wp2_with fail
     clear c0 c1 c2;refine zQ ?_
     repeat (go_big_quiet_step (first|(go_at_call 85;exact bE (HC.out _))))
     refine dj ?_;rintro _ ⟨p,rfl⟩;have ws:cj (aE w.heap.size w p.w):=(J.out p.w (v.out p)).2.2.2;clear m0 m1 m2 m3 m4;cases d with
     |false=>
      have ux:cj (R=tP):=by unfold cj;rw[<-HR.out];exact AB yr.out (cd HY.out) vr.out
      go_wp2;go_ret;rw[ux.out];exact⟨rfl,ws.out⟩
     |true=>
      go_wp2;go_roundw
      case rel=>exact⟨i+1,by omega,by go_num,dL (p:=λy:Fd=>m.known y.ty=tP) wk.out HY.out vr.out,v.out p⟩
      case measure=>simp[de];omega
    ·have xf:i=s.fs.length:=by omega
     subst xf;rw[cR] at E;have xj:=zH E;clear ue E wl;go_wp2;go_roundw
     case rel=>exact⟨j+1,by omega,by go_num,dL (p:=λs:St=>∀y∈s.fs,m.known y.ty=tP) HZ.out HS.out xj.out,uv.out⟩
     case measure=>simp[de];omega
  ·have yy:j=m.ss.length:=by omega
   subst yy;rw[cR] at z;have HZ:=zH z;clear z K vc ur
   go_wp2_with fail
   clear c0 c1
   go_loopw [5] (λk wr=>∃i:bh,i<=m.fs.length/\k= Z U (i:aw)/\(∀f∈m.fs.take i,m.known f.ret=tP/\∀y∈f.vs,m.known y.ty=tP)/\aE W1.heap.size W1 wr) (λk _=>m.fs.length-(de k).toNat)
   case atStart=>exact⟨0,cN _,rfl,by simp,HB.out⟩
   case round=>
    rename World=>wp;obtain⟨i,hi,rfl,z,K⟩:=hrel;obtain⟨c0,c1,ur,vc⟩:=J.out wp K;have yW:=zH z;have xT:=zH K;have zc:=zH vc
    by_cases up:i<m.fs.length
    ·obtain⟨f,A⟩:∃y,m.fs[i]?=tG y:=⟨_,ap up⟩
     have vt:=cd A;obtain⟨g,o,hA,yp,q1⟩:=ur.frow (by intro e;rw[e] at up;simp at up);have u:cj (∀W,aE W1.heap.size W1 W->W.cell? ⟨N,0,tM⟩=tG (tU m.sA m.ss.length m.sC)/\W.cell? ⟨N,1,tM⟩=tG (tU (tG ⟨g,o,tM⟩) m.fs.length m.fC)/\W.cell? ⟨g,o+i*8+2,tM⟩=tG (tU f.c.varsA f.vs.length f.c.varsC)/\W.cell? ⟨g,o+i*8+3,tM⟩=tG (ua f.c.rp)/\W.cell? ⟨g,o+i*8+3+1,tM⟩=tG (tS f.c.rto)/\f.inn W):=λW hW=>by
      obtain⟨k0,k1,k2,_⟩:=J.out W hW;obtain⟨g2,yq,hA2,_,x⟩:=k2.frow (by intro e;rw[e] at up;simp at up);rw[hA] at hA2;simp only[dd,eR,pf] at hA2;refine⟨k0,by rw[<-hA];exact k1, ?_,by rw[hA2.1,hA2.2];exact x i f A 3 _ rfl,by rw[hA2.1,hA2.2];exact x i f A 4 _ rfl,k2.fin f vt⟩;rw[<-(k2.fin f vt).nvars,hA2.1,hA2.2];exact x i f A 2 _ rfl
     have yv:(i:aw)<(m.fs.length:aw):=by omega
     have HS:=zH A;have yb:=zH vt;have HA:=zH hA;have vy:=yi.out f vt;obtain⟨d,G⟩:=zE (m.known f.ret);have vr:=zH G;have v:cj (∀p:BW wp,aE W1.heap.size W1 p.w):=λp=>xT.out.trans (p.h.mono xT.out.size);have HC:cj (∀p:BW wp,zP 85 #[ub #[tU m.sA m.ss.length m.sC,tU (tG ⟨g,o,tM⟩) m.fs.length m.fC],ub #[ua f.c.rp,tS f.c.rto]] p.w (ua d)):=λp=>by
      rw[<-HA.out,<-G];exact wg.out p.w (v.out p) f.ret
     have m0:∀p:BW wp,p.w.cell? ⟨N,0,tM⟩=tG (tU m.sA m.ss.length m.sC):=λp=>(u.out p.w (v.out p)).1;have m1:∀p:BW wp,p.w.cell? ⟨N,1,tM⟩=tG (tU (tG ⟨g,o,tM⟩) m.fs.length m.fC):=λp=>(u.out p.w (v.out p)).2.1;have m3:∀p:BW wp,p.w.cell? ⟨g,o+i*8+3,tM⟩=tG (ua f.c.rp):=λp=>(u.out p.w (v.out p)).2.2.2.1;have m4:∀p:BW wp,p.w.cell? ⟨g,o+i*8+3+1,tM⟩=tG (tS f.c.rto):=λp=>(u.out p.w (v.out p)).2.2.2.2.1;clear z K vc A ur G vt hA q1
     go_wp2_with fail
     clear c0 c1;refine zQ ?_
     repeat (go_big_quiet_step (first|(go_at_call 85;exact bE (HC.out _))))
     refine dj ?_;rintro _ ⟨p,rfl⟩;have ws:cj (aE w.heap.size w p.w):=(J.out p.w (v.out p)).2.2.2;clear m0 m1 m3 m4;cases d with
     |false=>
      have ux:cj (R=tP):=by unfold cj;rw[<-HR.out];exact Eu yb.out vr.out
      go_wp2;go_ret;rw[ux.out];exact⟨rfl,ws.out⟩
     |true=>
      go_wp2_with fail
      go_loopw [6] (λk wr=>∃q:bh,q<=f.vs.length/\k= Z U (q:aw)/\(∀y∈f.vs.take q,m.known y.ty=tP)/\aE W1.heap.size W1 wr) (λk _=>f.vs.length-(de k).toNat)
      case atStart=>exact⟨0,cN _,rfl,by simp,v.out p⟩
      case round=>
       obtain⟨q,hq,rfl,E,ue⟩:=hrel;have wk:=zH E;have uv:=zH ue;obtain⟨c0,c1,c2,_,_,xo⟩:=u.out wr ue
       by_cases xp:q<f.vs.length
       ·obtain⟨y,hy⟩:∃y,f.vs[q]?=tG y:=⟨_,ap xp⟩
        obtain⟨f1,fo,vp,vq,x⟩:=xo.vars (by intro e;rw[e] at xp;simp at xp);have AD:(q:aw)<(f.vs.length:aw):=by omega
        have HY:=zH hy;obtain⟨d,G⟩:=zE (m.known y.ty);have yd:=zH G;have vd:cj (∀p:BW wr,aE W1.heap.size W1 p.w):=λp=>uv.out.trans (p.h.mono uv.out.size);have zj:cj (∀p:BW wr,zP 85 #[ub #[tU m.sA m.ss.length m.sC,tU (tG ⟨g,o,tM⟩) m.fs.length m.fC],ub #[ua y.ptr,tS y.tgt]] p.w (ua d)):=λp=>by
         rw[<-HA.out,<-G];exact wg.out p.w (vd.out p) y.ty
        have m0:∀p:BW wr,p.w.cell? ⟨N,0,tM⟩=tG (tU m.sA m.ss.length m.sC):=λp=>(u.out p.w (vd.out p)).1;have m1:∀p:BW wr,p.w.cell? ⟨N,1,tM⟩=tG (tU (tG ⟨g,o,tM⟩) m.fs.length m.fC):=λp=>(u.out p.w (vd.out p)).2.1;have m2:∀p:BW wr,p.w.cell? ⟨g,o+i*8+2,tM⟩=tG (tU (tG ⟨f1,fo,tM⟩) f.vs.length f.c.varsC):=λp=>by rw[<-vp];exact(u.out p.w (vd.out p)).2.2.1
        have m3:∀p:BW wr,p.w.cell? ⟨f1,fo+q*3,tM⟩=tG (ua y.ptr):=λp=>by rw[p.h.cell (p:=⟨f1,_,tM⟩) vq];exact x q y hy 0 _ rfl
        have m4:∀p:BW wr,p.w.cell? ⟨f1,fo+q*3+1,tM⟩=tG (tS y.tgt):=λp=>by rw[p.h.cell (p:=⟨f1,_,tM⟩) vq];exact x q y hy 1 _ rfl
        clear E ue xo hy G vp x
        go_wp2_with fail
        clear c0 c1 c2;refine zQ ?_
        repeat (go_big_quiet_step (first|(go_at_call 85;exact bE (zj.out _))))
        refine dj ?_;rintro _ ⟨p,rfl⟩;have zp:cj (aE w.heap.size w p.w):=(J.out p.w (vd.out p)).2.2.2;clear m0 m1 m2 m3 m4;cases d with
        |false=>
         have ux:cj (R=tP):=by unfold cj;rw[<-HR.out];exact Ev yb.out (cd HY.out) yd.out
         go_wp2;go_ret;rw[ux.out];exact⟨rfl,zp.out⟩
        |true=>
         go_wp2;go_roundw
         case rel=>exact⟨q+1,by omega,by go_num,dL (p:=λy:Vr=>m.known y.ty=tP) wk.out HY.out yd.out,vd.out p⟩
         case measure=>simp[de];omega
       ·have zs:q=f.vs.length:=by omega
        subst zs;rw[cR] at E;have xj:=zH E;clear ue E xo;go_wp2;go_roundw
        case rel=>exact⟨i+1,by omega,by go_num,dL (p:=λf:Fn=>m.known f.ret=tP/\∀y∈f.vs,m.known y.ty=tP) yW.out HS.out ⟨vr.out,xj.out⟩,uv.out⟩
        case measure=>simp[de];omega
    ·have xf:i=m.fs.length:=by omega
     subst xf;rw[cR] at z;have ux:cj (R=tR):=by unfold cj;rw[<-HR.out];exact Ew HZ.out z
     clear z K vc ur;go_wp2;go_ret;rw[ux.out];exact⟨rfl,zc.out⟩
theorem tu (m:Mo)(w:World)(h:iG w m):
  zP 13 #[ub m.cells] w (Z U (eU m)):=by
 obtain⟨R,hR⟩:=zE (eU m);have HR:cj (R=if 30<m.ss.length\/60<m.fs.length then 2
  else if dJ m=tP then 6
  else if (bV m).all m.known=tR then 5
  else if aV (codeF m) m.fs≠0 then aV (codeF m) m.fs
  else bU (decide (0<=m.fnIx dO)&&(match m.fs[(m.fnIx dO).toNat]? with
   |some g=>decide (g.c.par=0)&& !g.c.rp
   |none=>tR)) 9):=hR.symm
 rw[hR];obtain⟨N,hN⟩:=zE w.heap.size;obtain⟨W1,vu⟩:=zE (w.alloc (uc m.cells 25));have AE:=iR vu hN;have AF:W1.heap.size=N+1:=by rw[<-vu];simp[hN]
 have AH:W1.heap[N]?=tG (uc m.cells 25 (0,0)):=by rw[<-vu,<-hN];exact alloc_at _ _
 have Bk:cj (∀W,aE N w W->iG W m):=λW hW=>⟨h.mo.below (by rw[hN];exact hW),h.sl,h.fl,h.fd,h.vl,h.al⟩
 have J:cj (∀W,aE W1.heap.size W1 W->W.heap[N]?=tG (uc m.cells 25 (0,0))/\W.cell? ⟨N,0,tM⟩=tG (tU m.sA m.ss.length m.sC)/\W.cell? ⟨N,1,tM⟩=tG (tU m.fA m.fs.length m.fC)/\iG W m/\aE N w W):=λW hW=>by
  have q1:=(hW.block N (by omega)).trans AH;have h3:=AE.trans (hW.mono (show N<=W1.heap.size by omega));exact⟨q1,by rw[bw _ _ _ _ _ _ q1];rfl,by rw[bw _ _ _ _ _ _ q1];rfl,Bk.out W h3,h3⟩
 have yb:=vu;simp only[Mo.cells] at yb;have AI:=zH yb;have CN:=zH AF;have Bm:cj (∀W,aE N w W->N<=W.heap.size):=λW hW=>by have:=hW.size;omega
 unfold zP;rw[hN];simp only[Mo.cells];clear h vu yb AE AH hR AF;obtain⟨hr,c0,c1,_,_⟩:=J.out W1 (aq _ _);have AK:=zH hr;clear hr;go_enter func13,ntmps13
 go_upto_region 1 with(fail)
 rw[AI.out];clear AI hN
 by_cases g1:30<m.ss.length
 ·have A:cj (R=2):=by unfold cj;rw[HR.out,cI (.inl g1)]
  clear HR;go_wp2;go_ret;rw[A.out];exact⟨rfl,(J.out W1 (aq _ _)).2.2.2.2⟩
 by_cases g2:60<m.fs.length
 ·have A:cj (R=2):=by unfold cj;rw[HR.out,cI (.inr g2)]
  clear HR;go_wp2;go_ret;rw[A.out];exact⟨rfl,(J.out W1 (aq _ _)).2.2.2.2⟩
 have vx:cj (R=if dJ m=tP then 6
  else if (bV m).all m.known=tR then 5
  else if aV (codeF m) m.fs≠0 then aV (codeF m) m.fs
  else bU (decide (0<=m.fnIx dO)&&(match m.fs[(m.fnIx dO).toNat]? with
   |some g=>decide (g.c.par=0)&& !g.c.rp
   |none=>tR)) 9):=by unfold cj;rw[HR.out,bx (by omega)]
 clear HR;have xp:cj (zP 47 #[ub m.cells] W1 (ua (dJ m))):=by
  obtain⟨_,_,_,K,_⟩:=J.out W1 (aq _ _);exact yz m W1 K.mo K.sl K.fl K.fd
 obtain⟨tw,AM⟩:=zE (dJ m);rw[AM] at xp vx;clear AM
 go_upto_region 3 with(fail)
 cases tw with
 |true=>
  have A:cj (R=6):=by unfold cj;rw[vx.out,cI rfl]
  clear vx
  go_wp2_with (first
   |(refine cm rfl 25 _ rfl N rfl 25 m.cells (0,0) _ AK.out fx rfl (by kernel_rfl) ?_)
   |(go_at_call 47;refine xp.out.mono ?_;rintro e w3 ⟨rfl,ux⟩;have vc:=zH ux;clear ux))
  go_ret;rw[A.out];exact⟨rfl,(J.out w3 vc.out).2.2.2.2⟩
 |false=>
 have vy:cj (R=if (bV m).all m.known=tR then 5
  else if aV (codeF m) m.fs≠0 then aV (codeF m) m.fs
  else bU (decide (0<=m.fnIx dO)&&(match m.fs[(m.fnIx dO).toNat]? with
   |some g=>decide (g.c.par=0)&& !g.c.rp
   |none=>tR)) 9):=by unfold cj;rw[vx.out,bx (by simp)]
 clear vx
 go_upto_region 5 with(first
   |(refine cm rfl 25 _ rfl N rfl 25 m.cells (0,0) _ AK.out fx rfl (by kernel_rfl) ?_)
   |(go_at_call 47;refine xp.out.mono ?_;rintro e w3 ⟨rfl,ux⟩;have vc:=zH ux;clear ux))
 clear c0 c1 xp;obtain⟨hr,c0,c1,K,_⟩:=J.out w3 vc.out;have yd:=zH hr;have vp:cj (zP 48 #[ub m.cells] w3 (ua (!(bV m).all m.known))):=tq m w3 K.mo K.sl K.fl K.fd K.vl;clear hr K;obtain⟨un,xt⟩:=zE ((bV m).all m.known);rw[xt] at vp vy;cases un with
 |false=>
  have A:cj (R=5):=by unfold cj;rw[vy.out,cI rfl]
  clear vy xt;rw[rj] at vp
  go_wp2_with (first
   |(refine cm rfl 25 _ rfl N rfl 25 m.cells (0,0) _ yd.out fx rfl (by kernel_rfl) ?_)
   |(go_at_call 48;refine vp.out.mono ?_;rintro e w4 ⟨rfl,we⟩;have ye:=zH we;clear we))
  go_ret;rw[A.out];exact⟨rfl,(J.out w4 (vc.out.trans (ye.out.mono vc.out.size))).2.2.2.2⟩
 |true=>
 have xF:cj (R=if aV (codeF m) m.fs≠0 then aV (codeF m) m.fs
  else bU (decide (0<=m.fnIx dO)&&(match m.fs[(m.fnIx dO).toNat]? with
   |some g=>decide (g.c.par=0)&& !g.c.rp
   |none=>tR)) 9):=by unfold cj;rw[vy.out,bx (by simp)]
 have Bs:cj (∀t∈bV m,m.known t=tP):=gA.1 xt;clear vy xt;rw[sx] at vp
 go_upto_region 7 with(first
   |(refine cm rfl 25 _ rfl N rfl 25 m.cells (0,0) _ yd.out fx rfl (by kernel_rfl) ?_)
   |(go_at_call 48;refine vp.out.mono ?_;rintro e w4 ⟨rfl,we⟩;have ye:cj (aE W1.heap.size W1 w4):=vc.out.trans (we.mono vc.out.size);clear we))
 clear c0 c1 vp yd vc
 go_wp2_with fail
 go_loopw [3] (λk wr=>∃j:bh,j<=m.fs.length/\k= Z U (j:aw)/\(∀f∈m.fs.take j,codeF m f=0)/\aE W1.heap.size W1 wr) (λk _=>m.fs.length-(de k).toNat)
 case atStart=>exact⟨0,cN _,rfl,by simp,ye.out⟩
 case round=>
  rename World=>G;obtain⟨j,hj,rfl,hz,hb⟩:=hrel;obtain⟨hr,c0,c1,ur,yi⟩:=J.out G hb;have HZ:=zH hz;have HB:=zH hb;have AN:=zH yi;have By:=zH hr
  by_cases yk:j<m.fs.length
  ·obtain⟨f,hs⟩:∃y,m.fs[j]?=tG y:=⟨_,ap yk⟩
   have vf:=cd hs;obtain⟨g1,AS,hA,CT,q1⟩:=ur.mo.frow (by intro e;rw[e] at yk;simp at yk);have BE:cj (∀k u,f.cells.toList[k]?=tG u->G.cell? ((⟨g1,AS+j*8,tM⟩:fS).add k)=tG u):=λk u hu=>by rw[cY];exact q1 j f hs k u hu
   have hst:∀(c:eA cA),c.size=8->(dt ⟨G.heap.size,0,tM⟩ f.cells.toList 0).run am (G.alloc (uc c 38))= .ok () (G.alloc (uc f.cells 38)):=λc hc=>
    cx (P:=am) G 38 c f.cells (by show _=tG 8;kernel_rfl) hc (gm f)
   obtain⟨P,hP⟩:=zE G.heap.size;obtain⟨E,vh⟩:=zE (G.alloc (uc f.cells 38));have BT:E.heap.size=P+1:=by rw[<-vh];simp[hP]
   have AT:E.heap[P]?=tG (uc f.cells 38 (0,0)):=by rw[<-vh,<-hP];exact alloc_at _ _
   have ux:aE W1.heap.size W1 E:=by rw[<-vh];exact hb.alloc hb.size _
   have yp:=ur.mo.fin f vf;have C4:=ur.vl f vf;have uv:cj (∀W,aE E.heap.size E W->aE W1.heap.size W1 W/\W.heap[P]?=tG (uc f.cells 38 (0,0))/\W.cell? ⟨P,1,tM⟩=tG (Z U f.c.par)/\W.cell? ⟨P,2,tM⟩=tG (tU f.c.varsA f.vs.length f.c.varsC)/\W.cell? ⟨P,7,tM⟩=tG (tU f.c.insA f.c.ins.length f.c.insC)):=λW hW=>by
    have q:=(hW.block P (by omega)).trans AT;refine⟨ux.trans (hW.mono ux.size),q,by rw[bw _ _ _ _ _ _ q];rfl, ?_,by rw[bw _ _ _ _ _ _ q];rfl⟩;rw[bw _ _ _ _ _ _ q,<-yp.nvars];rfl
   have C5:(j:aw)<(m.fs.length:aw):=by omega
   have HS:=zH hs;have C6:=zH vf;have BY:cj (∀W,aE E.heap.size E W->oQ W m f/\∀i∈f.c.ins,i.args_in W):=λW hW=>by
    obtain⟨_,_,_,K,_⟩:=J.out W (uv.out W hW).1;have:=K.mo.fin f vf;exact⟨Cu K.mo this,λi hi=>this.code.args i hi⟩
   have B5:cj (∀i∈f.c.ins,i.args.length<=40):=ur.al f vf;have B6:cj (∀v,isVar f.vs.length v=tP->m.known (ay f.vs v)=tP):=λv hv=>Bs.out _ (by
    obtain⟨h0,h1⟩:=eT.1 hv;obtain⟨k,rfl⟩:∃k:bh,v=(k:aw):=⟨v.toNat,by omega⟩
    obtain⟨x,hx⟩:∃x,f.vs[k]?=tG x:=⟨_,ap (by omega)⟩
    have e:ay f.vs (k:aw)=x.ty:=by unfold ay;rw[eW,hx]
    rw[e];unfold bV;exact cX.2 (.inr (kq.2 ⟨f,vf,ie _ (gi.2 ⟨x,cd hx,rfl⟩)⟩)))
   have AW:cj (f.c.ins≠[]->∃b o,f.c.insA=tG ⟨b,o,tM⟩/\∀W,aE E.heap.size E W->b<W.heap.size/\∀(k:bh)(i:Ins),f.c.ins[k]?=tG i->∀q u,i.cells.toList[q]?=tG u->W.cell? ⟨b,o+k*13+q,tM⟩=tG u):=λB7=>by
    obtain⟨b,o,hA,hb,hc⟩:=yp.code.row B7;refine⟨b,o,hA,λW hW=> ?_⟩;have A0:aE G.heap.size G W:=by
     have h0:=il vh;exact h0.trans (hW.mono h0.size)
    refine⟨by have:=A0.size;omega,λk i hi q u hu=> ?_⟩;rw[A0.cell (p:=⟨b,_,tM⟩) hb];exact hc k i hi q u hu
   obtain⟨z,wg⟩:=zE (codeF m f);have ue:cj (z=if 300<f.vs.length\/f.c.ins.length<1\/3000<f.c.ins.length then 2
    else if f.c.par<0\/(f.vs.length:aw)<f.c.par then 15
    else if aV (aF m f) f.c.ins≠0 then aV (aF m f) f.c.ins
    else bU (match f.c.ins.getLast? with
     |some i=>decide (16<=i.op)
     |none=>tR) 15):=wg.symm
   have up:cj (z≠0->R=z):=λh0=>by
    have e:=kw (f:=codeF m) hz hs (by rw[wg];exact h0);rw[xF.out,e,wg,cI h0]
   have vq:cj (z=0->∀f∈m.fs.take (j+1),codeF m f=0):=λh0=>dL (p:=λf=>codeF m f=0) hz hs (by rw[wg];exact h0);rw[hP] at hst;rw[vh] at hst;rw[hA] at c1;have B8:=zH vh;have HP:=zH hP;clear hz hb yi hs vf ur yp q1 wg hr hA ux AT BT vh
   go_upto_region 11 with(refine au rfl 38 _ rfl ⟨g1,AS+j*8,tM⟩ rfl f.cells _ BE.out cQ rfl (by kernel_rfl) ?_)
   clear c0 c1 hst B8;have wj:cj (aE N w E):=(J.out E (uv.out E (aq _ _)).1).2.2.2.2;obtain⟨_,_,p1,p2,p7⟩:=uv.out E (aq _ _)
   by_cases d1:300<f.vs.length
   ·have A:cj (R=2):=by
     have e:z=2:=by rw[ue.out,cI (.inl d1)]
     unfold cj;rw[up.out (by rw[e];decide),e]
    clear ue up vq;go_wp2;go_ret;rw[A.out];exact⟨rfl,wj.out⟩
   by_cases d2:f.c.ins.length<1
   ·have A:cj (R=2):=by
     have e:z=2:=by rw[ue.out,cI (.inr (.inl d2))]
     unfold cj;rw[up.out (by rw[e];decide),e]
    clear ue up vq;go_wp2;go_ret;rw[A.out];exact⟨rfl,wj.out⟩
   by_cases d3:3000<f.c.ins.length
   ·have A:cj (R=2):=by
     have e:z=2:=by rw[ue.out,cI (.inr (.inr d3))]
     unfold cj;rw[up.out (by rw[e];decide),e]
    clear ue up vq;go_wp2;go_ret;rw[A.out];exact⟨rfl,wj.out⟩
   by_cases d4:f.c.par<0
   ·have A:cj (R=15):=by
     have e:z=15:=by rw[ue.out,bx (by omega),cI (.inl d4)]
     unfold cj;rw[up.out (by rw[e];decide),e]
    clear ue up vq;go_wp2;go_ret;rw[A.out];exact⟨rfl,wj.out⟩
   by_cases d5:(f.vs.length:aw)<f.c.par
   ·have A:cj (R=15):=by
     have e:z=15:=by rw[ue.out,bx (by omega),cI (.inr d5)]
     unfold cj;rw[up.out (by rw[e];decide),e]
    clear ue up vq;go_wp2;go_ret;rw[A.out];exact⟨rfl,wj.out⟩
   have yq:cj (z=if aV (aF m f) f.c.ins≠0 then aV (aF m f) f.c.ins
    else bU (match f.c.ins.getLast? with
     |some i=>decide (16<=i.op)
     |none=>tR) 15):=by unfold cj;rw[ue.out,bx (by omega),bx (by omega)]
   clear ue
   go_wp2_with fail
   clear p1 p2 p7
   go_loopw [6] (λk wr=>∃q:bh,q<=f.c.ins.length/\k= Z U (q:aw)/\(∀i∈f.c.ins.take q,aF m f i=0)/\aE E.heap.size E wr) (λk _=>f.c.ins.length-(de k).toNat)
   case atStart=>exact⟨0,cN _,rfl,by simp,aq _ _⟩
   case round=>
    obtain⟨q,hq,rfl,wk,vr⟩:=hrel;have yr:=zH wk;have yv:=zH vr
    by_cases yy:q<f.c.ins.length
    ·obtain⟨i,hi⟩:∃y,f.c.ins[q]?=tG y:=⟨_,ap yy⟩
     have yW:=cd hi;obtain⟨ib,io,wl,ws⟩:=AW.out (by intro e;rw[e] at yy;simp at yy);have C7:(q:aw)<(f.c.ins.length:aw):=by omega
     have HI:=zH hi;have vm:cj (∀p:BW wr,aE E.heap.size E p.w):=λp=>yv.out.trans (p.h.mono yv.out.size);have B9:cj (∀(p:BW wr) k u,m.cells.toList[k]?=tG u->p.w.cell? ((⟨N,0,tM⟩:fS).add k)=tG u):=λp=>dC (J.out p.w (uv.out p.w (vm.out p)).1).1;have Cd:cj (∀(p:BW wr) k u,f.cells.toList[k]?=tG u->p.w.cell? ((⟨P,0,tM⟩:fS).add k)=tG u):=λp=>dC (uv.out p.w (vm.out p)).2.1;have Cl:cj (∀(p:BW wr) k u,i.cells.toList[k]?=tG u->p.w.cell? ((⟨ib,io+q*13,tM⟩:fS).add k)=tG u):=λp k u hu=>by
      rw[cY];exact(ws p.w (vm.out p)).2 q i hi k u hu
     have p7:∀p:BW wr,p.w.cell? ⟨P,7,tM⟩=tG (tU (tG ⟨ib,io,tM⟩) f.c.ins.length f.c.insC):=λp=>by rw[<-wl];exact(uv.out p.w (vm.out p)).2.2.2.2
     obtain⟨d,hd⟩:=zE (aF m f i);have zc:=zH hd;have Cp:cj (∀p:BW wr,zP 49 #[ub m.cells,ub f.cells,ub i.cells] p.w (Z U d)):=λp=>by
      obtain⟨h1,h2⟩:=BY.out p.w (vm.out p);rw[<-hd];exact sZ m f i p.w h1 (h2 i yW) (B5.out i yW) B6.out
     clear wk vr hi yW wl ws hd
     go_wp2_with fail
     refine zQ ?_
     repeat (first
      |(go_big_quiet_want;(first
        |(refine jV 25 _ rfl ⟨N,0,tM⟩ rfl m.cells _ B9.out fx rfl (by kernel_rfl) ?_)
        |(refine jV 38 _ rfl ⟨P,0,tM⟩ rfl f.cells _ Cd.out cQ rfl (by kernel_rfl) ?_)
        |(refine jV 42 _ rfl ⟨ib,io+q*13,tM⟩ rfl i.cells _ Cl.out cD rfl (by kernel_rfl) ?_));(simp only[eh,bp,cn,co]);go_big_quiet_on)
      |(go_big_quiet_step (first|(go_at_call 49;exact bE (Cp.out _)))))
     refine dj ?_;rintro _ ⟨p,rfl⟩;have zj:cj (aE N w p.w):=(J.out p.w (uv.out p.w (vm.out p)).1).2.2.2.2;clear p7
     by_cases xf:d=0
     ·subst xf
      go_wp2;go_roundw
      case rel=>exact⟨q+1,by omega,by go_num,dL (p:=λi:Ins=>aF m f i=0) yr.out HI.out zc.out,vm.out p⟩
      case measure=>simp[de];omega
     ·have Dd:(d==0)=tR:=by rw[cT];exact xf
      have A:cj (R=d):=by
       have e:=kw (f:=aF m f) yr.out HI.out (by rw[zc.out];exact xf);have e2:z=d:=by rw[yq.out,e,zc.out,cI xf]
       unfold cj;rw[up.out (by rw[e2];exact xf),e2]
      go_wp2;go_ret;rw[A.out];exact⟨rfl,zj.out⟩
    ·have CA:q=f.c.ins.length:=by omega
     subst CA;rw[cR] at wk;obtain⟨i,hi⟩:∃i,f.c.ins[f.c.ins.length-1]?=tG i:=⟨_,ap (by omega)⟩
     have A1:cj (z=bU (decide (16<=i.op)) 15):=by
      unfold cj;rw[yq.out,iM wk,bx (by simp),List.getLast?_eq_getElem?,hi]
     obtain⟨ib,io,wl,ws⟩:=AW.out (by intro e;rw[e] at hi;simp at hi);obtain⟨L,hL⟩:∃L,f.c.ins.length=L+1:=⟨f.c.ins.length-1,by omega⟩
     rw[hL,Nat.add_sub_cancel] at hi;have i0:wr.cell? ⟨ib,io+L*13,tM⟩=tG (Z U i.op):=(ws wr vr).2 L i hi 0 _ rfl;have p7:wr.cell? ⟨P,7,tM⟩=tG (tU (tG ⟨ib,io,tM⟩) (L+1) f.c.insC):=by rw[<-wl,<-hL];exact(uv.out wr vr).2.2.2.2
     have Dg:((L+1:bh):aw)-1=(L:aw):=by omega
     have zj:cj (aE N w wr):=(J.out wr (uv.out wr vr).1).2.2.2.2;have Do:=zH hL;have Ds:L<=3000:=by omega
     clear wk vr hi ws yq yr wl;rw[hL]
     by_cases CC:i.op<16
     ·have A:cj (R=15):=by
       have e:z=15:=by rw[A1.out,cv (by omega)];rfl
       unfold cj;rw[up.out (by rw[e];decide),e]
      go_wp2;go_ret;rw[A.out];exact⟨rfl,zj.out⟩
     ·have CD:cj (z=0):=by unfold cj;rw[A1.out,cV (by omega)];rfl
      have DA:decide (i.op<16)=tR:=cv CC;go_wp2;go_roundw
      case rel=>exact⟨j+1,by omega,by go_num,vq.out CD.out,(uv.out wr yv.out).1⟩
      case measure=>simp[de];omega
  ·have CH:j=m.fs.length:=by omega
   subst CH;rw[cR] at hz;have xj:cj (R=bU (decide (0<=m.fnIx dO)&&(match m.fs[(m.fnIx dO).toNat]? with
    |some g=>decide (g.c.par=0)&& !g.c.rp
    |none=>tR)) 9):=by
    unfold cj;rw[xF.out,iM hz,bx (by simp)]
   obtain⟨kx,vt⟩:=zE (m.fnIx dO);rw[vt] at xj;have A2:cj (zP 50 #[ub m.cells,tS ⟨#[109,97,105,110]⟩] G (Z U kx)):=by
    rw[<-vt];exact nD m dO G ur.mo.nf ur.mo.frow
   have zp:cj (∀W b,zP 51 #[ua b,Z U 9] W (Z U (bU (!b) 9))):=λW b=>bG b 9 W;have zs:cj (∀W W',aE G.heap.size G W->aE W.heap.size W W'->aE N w W'):=λW W' h1 h2=>AN.out.trans ((h1.trans (h2.mono h1.size)).mono (Bm.out _ AN.out));have CM:=zH ur.mo.frow;clear hz hb yi hr
   go_upto_region 25 with(first
    |(refine cm rfl 25 _ rfl N rfl 25 m.cells (0,0) _ By.out fx rfl (by kernel_rfl) ?_)
    |(go_at_call 50;refine A2.out.mono ?_;rintro e w8 ⟨rfl,A3⟩;have xT:=zH A3;clear A3))
   clear c0 c1 A2;rcases nQ (λf:Fn=>f.c.nm==dO) m.fs with e|⟨k,f,e,hf,_⟩
   ·have zv:kx= -1:=by rw[<-vt];exact e
    subst zv;have A:cj (R=9):=by unfold cj;rw[xj.out];rfl
    clear ur vt xF xj e CM
    go_wp2_with (go_at_call 51;refine(zp.out _ _).mono ?_;rintro e w9 ⟨rfl,vd⟩;have xo:=zH vd;clear vd)
    go_ret;rw[A.out];exact⟨rfl,zs.out _ _ xT.out xo.out⟩
   ·have zv:kx=(k:aw):=by rw[<-vt];exact e
    subst zv;have A4:=(bl.1 hf).1;have DB:(k:aw)<(m.fs.length:aw):=by omega
    have A:cj (R=bU (decide (f.c.par=0)&& !f.c.rp) 9):=by
     unfold cj;rw[xj.out,eW,hf,cV (by omega)];rfl
    obtain⟨fb,An,A5,At,Ax⟩:=ur.mo.frow (by intro e;rw[e] at A4;simp at A4);have A6:cj (∀W8,aE G.heap.size G W8->W8.cell? ⟨fb,An+k*8+1,tM⟩=tG (Z U f.c.par)/\W8.cell? ⟨fb,An+k*8+3,tM⟩=tG (ua f.c.rp)/\W8.cell? ⟨N,1,tM⟩=tG (tU (tG ⟨fb,An,tM⟩) m.fs.length m.fC)):=by
     intro W8 h8;refine⟨?_, ?_, ?_⟩
     ·rw[h8.cell (p:=⟨fb,_,tM⟩) At];exact Ax k f hf 1 _ rfl
     ·rw[h8.cell (p:=⟨fb,_,tM⟩) At];exact Ax k f hf 3 _ rfl
     ·rw[<-A5];exact(J.out W8 (HB.out.trans (h8.mono HB.out.size))).2.2.1
    have DE:max (k:aw) 0=(k:aw):=by omega
    have DG:k<=60:=by omega
    have DH:decide ((k:aw)<0)=tR:=cv (by omega);clear ur vt xF xj e At Ax hf A5;obtain⟨u1,u2,u3⟩:=A6.out w8 xT.out;clear A6
    by_cases hp:f.c.par=0
    ·rw[hp] at u1
     have AD:cj (R=bU (!f.c.rp) 9):=by unfold cj;rw[A.out,hp];rfl
     go_wp2_with (go_at_call 51;refine(zp.out _ _).mono ?_;rintro e w9 ⟨rfl,vd⟩;have xo:=zH vd;clear vd)
     go_ret;rw[AD.out];exact⟨rfl,zs.out _ _ xT.out xo.out⟩
    ·have AD:cj (R=9):=by unfold cj;rw[A.out,cv hp];rfl
     have DM:(f.c.par==0)=tR:=by rw[cT];exact hp
     go_wp2_with (go_at_call 51;refine(zp.out _ _).mono ?_;rintro e w9 ⟨rfl,vd⟩;have xo:=zH vd;clear vd)
     go_ret;rw[AD.out];exact⟨rfl,zs.out _ _ xT.out xo.out⟩
end Go.Proofs.YtjomgckjhcfbgaaGreat
