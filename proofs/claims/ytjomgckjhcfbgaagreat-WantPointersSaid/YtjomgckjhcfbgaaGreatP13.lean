/- Walks. -/
import Derived.Test.YtjomgckjhcfbgaaGreatP9
import Derived.Test.YtjomgckjhcfbgaaGreatP11
import Derived.Test.YtjomgckjhcfbgaaGreatP12
set_option maxRecDepth 100000
set_option maxHeartbeats 64000000
set_option linter.all false
namespace Go.Proofs.YtjomgckjhcfbgaaGreat
open Go.RowKit
open Go.Proofs.Tryz renaming prog→am,underlying42→cA,underlying38→cJ,underlying25→fh
open _root_.List renaming getElem?_eq_getElem→ap,setIfInBounds_toArray→bh,getElem?_eq_some_iff→bo,set_cons_zero→bx,set_cons_succ→ca,mem_of_getElem?→ci,take_length→cL,mem_append→dg,mem_map→fL,mem_cons→fW,all_eq_true→gn,mem_flatMap→iv,all_eq_false→lR,mem_cons_of_mem→mS
open Go.RowKit.Below renaming refl→aq
open _root_ renaming Int→aw,Nat→bj,if_neg→bw,decide_eq_false→cm,if_pos→cH,beq_eq_false_iff_ne→cN,decide_eq_true→cR,Array→dl
open Go.RowKit renaming Below→aE,Hid→cg,intOf→dp
open Go renaming cell_of_row→bt,wpList_load_row→cf,run_storeCells_new→cr,Value→cw,storeCells→dd,wpQuiet_nil→dr,Addr→fg
open _root_.Nat renaming zero_le→cM
open Go.Addr renaming add_lit→cU
open Go.Act renaming put→cY
open _root_.Option.some renaming injEq→dj
open _root_.Int renaming toNat_natCast→ep
open Go.Addr.mk renaming injEq→eV
open _root_.Bool renaming not_false→qk,not_eq_true'→rj,not_true→rK,true→ti,false→tj
open _root_.Option renaming some→tf,none→th
open Go.Value renaming string→tm,slice→tn,bool→tt,agg→tv,int→Z
open Go.Obj renaming cells→tA
open Go.IntKind renaming i64→U
open Tryz
theorem zu {m:Mo}{s:St}{y:Fd}(d:s∈m.ss)(e:y∈s.fs)(h:m.known y.ty=tj):(!(bO m).all m.known)=ti:=by
 rw[rj,lR];exact⟨y.ty,dg.2 (.inl (iv.2 ⟨s,d,fL.2 ⟨y,e,rfl⟩⟩)),by simp[h]⟩
theorem C9 {m:Mo}{f:Fn}(d:f∈m.fs)(h:m.known f.ret=tj):(!(bO m).all m.known)=ti:=by
 rw[rj,lR];exact⟨f.ret,dg.2 (.inr (iv.2 ⟨f,d,by simp⟩)),by simp[h]⟩
theorem Da {m:Mo}{f:Fn}{y:Vr}(d:f∈m.fs)(e:y∈f.vs)(h:m.known y.ty=tj):(!(bO m).all m.known)=ti:=by
 rw[rj,lR];exact⟨y.ty,dg.2 (.inr (iv.2 ⟨f,d,mS _ (fL.2 ⟨y,e,rfl⟩)⟩)),by simp[h]⟩
theorem Db {m:Mo}(j:∀s∈m.ss,∀y∈s.fs,m.known y.ty=ti)(g:∀f∈m.fs,m.known f.ret=ti/\∀y∈f.vs,m.known y.ty=ti):(!(bO m).all m.known)=tj:=by
 rw[Bool.not_eq_false',gn];intro t d;rcases dg.1 d with h|h
 ·obtain⟨s,o,d⟩:=iv.1 h
  obtain⟨y,e,rfl⟩:=fL.1 d;exact j s o y e
 ·obtain⟨f,hf,d⟩:=iv.1 h
  rcases fW.1 d with rfl|d
  ·exact(g f hf).1
  ·obtain⟨y,e,rfl⟩:=fL.1 d
   exact(g f hf).2 y e
theorem sj (m:Mo)(w:World)(up:m.inn w)(ya:m.ss.length<=90000)(yb:m.fs.length<=90000)(ur:∀s∈m.ss,s.fs.length<=90000)(uv:∀f∈m.fs,f.vs.length<=90000):
  zP 48 #[tv m.cells] w (tt (!(bO m).all m.known)):=by
 obtain⟨R,hR⟩:=zE (!(bO m).all m.known);rw[hR];have HR:=zH hR;obtain⟨N,hN⟩:=zE w.heap.size;obtain⟨W1,tU⟩:=zE (w.alloc (tA m.cells 25));have ux:=gy tU;have vu:W1.heap.size=N+1:=by rw[<-tU];simp[hN]
 have vx:W1.heap[N]?=tf (tA m.cells 25 (0,0)):=by rw[<-tU,<-hN];exact alloc_at _ _
 have J:cg (∀W,aE W1.heap.size W1 W->W.cell? ⟨N,0,th⟩=tf (tn m.sA m.ss.length m.sC)/\W.cell? ⟨N,1,th⟩=tf (tn m.fA m.fs.length m.fC)/\m.inn W/\aE w.heap.size w W):=λW hW=>by
  have q1:=(hW.block N (by omega)).trans vx;have h3:=ux.trans (hW.mono ux.size);exact⟨by rw[bt _ _ _ _ _ _ q1];rfl,by rw[bt _ _ _ _ _ _ q1];rfl,up.below h3,h3⟩
 have vc:cg (∀W,aE W1.heap.size W1 W->∀t:Ty,zP 85 #[tv #[tn m.sA m.ss.length m.sC,tn m.fA m.fs.length m.fC],tv #[tt t.1,tm t.2]] W (tt (m.known t))):=λW hW t=>xq m t.1 t.2 W up.ns (J.out W hW).2.2.1.srow;have wj:=zH ur;have wk:=zH uv;have vd:=tU;simp only[Mo.cells] at vd;have wl:=zH vd;have yd:=zH vu;simp only[Mo.cells];clear up ur uv tU vd ux vx hR vu;obtain⟨c0,c1,_,_⟩:=J.out W1 (aq _ _);go_enter func48,ntmps48
 go_upto_region 1 with(fail)
 rw[wl.out]
 go_wp2_with fail
 go_loopw [3] (λk wr=>∃j:bj,j<=m.ss.length/\k= Z U (j:aw)/\(∀s∈m.ss.take j,∀y∈s.fs,m.known y.ty=ti)/\aE W1.heap.size W1 wr) (λk _=>m.ss.length-(dp k).toNat)
 case atStart=>exact⟨0,cM _,rfl,by simp,aq _ _⟩
 case round=>
  rename World=>wo;clear c0 c1;obtain⟨j,hj,rfl,z,hb⟩:=hrel;obtain⟨c0,c1,tG,tR⟩:=J.out wo hb;have HZ:=zH z;have HB:=zH hb
  by_cases tW:j<m.ss.length
  ·obtain⟨s,A⟩:∃y,m.ss[j]?=tf y:=⟨_,ap tW⟩
   have ua:=ci A;obtain⟨g,o,K,ws,q1⟩:=tG.srow (by intro e;rw[e] at tW;simp at tW);have u:cg (∀W,aE W1.heap.size W1 W->W.cell? ⟨N,0,th⟩=tf (tn (tf ⟨g,o,th⟩) m.ss.length m.sC)/\W.cell? ⟨N,1,th⟩=tf (tn m.fA m.fs.length m.fC)/\W.cell? ⟨g,o+j*4+1,th⟩=tf (tn s.s.fA s.fs.length s.s.fC)/\s.inn W):=λW hW=>by
    obtain⟨k0,k1,k2,_⟩:=J.out W hW;obtain⟨g2,xf,hA2,_,x⟩:=k2.srow (by intro e;rw[e] at tW;simp at tW);rw[K] at hA2;simp only[dj,eV,and_true] at hA2;refine⟨by rw[<-K];exact k0,k1, ?_,k2.sin s ua⟩;rw[<-(k2.sin s ua).nf,hA2.1,hA2.2];exact x j s A 1 _ rfl
   have ye:(j:aw)<(m.ss.length:aw):=by omega
   have HS:=zH A;have xj:=zH ua;have ur:=wj.out s ua;have HA:=zH K;clear z hb tR A ua tG c0 c1 q1 K;obtain⟨c0,c1,c2,_⟩:=u.out wo HB.out
   go_wp2_with fail
   clear c0 c1 c2
   go_loopw [4] (λk wr=>∃i:bj,i<=s.fs.length/\k= Z U (i:aw)/\(∀y∈s.fs.take i,m.known y.ty=ti)/\aE W1.heap.size W1 wr) (λk _=>s.fs.length-(dp k).toNat)
   case atStart=>exact⟨0,cM _,rfl,by simp,HB.out⟩
   case round=>
    obtain⟨i,hi,rfl,E,tD⟩:=hrel;have vf:=zH E;have tM:=zH tD;obtain⟨c0,c1,c2,vh⟩:=u.out wr tD
    by_cases tE:i<s.fs.length
    ·obtain⟨y,hy⟩:∃y,s.fs[i]?=tf y:=⟨_,ap tE⟩
     obtain⟨f1,fo,ub,uc,x⟩:=vh.row (by intro e;rw[e] at tE;simp at tE);have xl:(i:aw)<(s.fs.length:aw):=by omega
     have HY:=zH hy;obtain⟨d,G⟩:=zE (m.known y.ty);have ud:=zH G;have v:cg (∀p:BW wr,aE W1.heap.size W1 p.w):=λp=>tM.out.trans (p.h.mono tM.out.size);have HC:cg (∀p:BW wr,zP 85 #[tv #[tn (tf ⟨g,o,th⟩) m.ss.length m.sC,tn m.fA m.fs.length m.fC],tv #[tt y.ptr,tm y.tgt]] p.w (tt d)):=λp=>by
      rw[<-HA.out,<-G];exact vc.out p.w (v.out p) y.ty
     have m0:∀p:BW wr,p.w.cell? ⟨N,0,th⟩=tf (tn (tf ⟨g,o,th⟩) m.ss.length m.sC):=λp=>(u.out p.w (v.out p)).1;have m1:∀p:BW wr,p.w.cell? ⟨N,1,th⟩=tf (tn m.fA m.fs.length m.fC):=λp=>(u.out p.w (v.out p)).2.1;have m2:∀p:BW wr,p.w.cell? ⟨g,o+j*4+1,th⟩=tf (tn (tf ⟨f1,fo,th⟩) s.fs.length s.s.fC):=λp=>by rw[<-ub];exact(u.out p.w (v.out p)).2.2.1
     have m3:∀p:BW wr,p.w.cell? ⟨f1,fo+i*5+1,th⟩=tf (tt y.ptr):=λp=>by rw[p.h.cell (p:=⟨f1,_,th⟩) uc];exact x i y hy 1 _ rfl
     have m4:∀p:BW wr,p.w.cell? ⟨f1,fo+i*5+1+1,th⟩=tf (tm y.tgt):=λp=>by rw[p.h.cell (p:=⟨f1,_,th⟩) uc];exact x i y hy 2 _ rfl
     clear E tD vh hy G ub x
     go_wp2_with fail
     clear c0 c1 c2;refine zQ ?_
     repeat (go_big_quiet_step (first|(go_at_call 85;exact bg (HC.out _))))
     refine dr ?_;rintro _ ⟨p,rfl⟩;have vm:cg (aE w.heap.size w p.w):=(J.out p.w (v.out p)).2.2.2;clear m0 m1 m2 m3 m4;cases d with
     |false=>
      have tP:cg (R=ti):=by unfold cg;rw[<-HR.out];exact zu xj.out (ci HY.out) ud.out
      go_wp2;go_ret;rw[tP.out];exact⟨rfl,vm.out⟩
     |true=>
      go_wp2;go_roundw
      case rel=>exact⟨i+1,by omega,by go_num,dw (p:=λy:Fd=>m.known y.ty=ti) vf.out HY.out ud.out,v.out p⟩
      case measure=>simp[dp];omega
    ·have vp:i=s.fs.length:=by omega
     subst vp;rw[cL] at E;have vq:=zH E;clear tD E vh;go_wp2;go_roundw
     case rel=>exact⟨j+1,by omega,by go_num,dw (p:=λs:St=>∀y∈s.fs,m.known y.ty=ti) HZ.out HS.out vq.out,tM.out⟩
     case measure=>simp[dp];omega
  ·have xo:j=m.ss.length:=by omega
   subst xo;rw[cL] at z;have HZ:=zH z;clear z hb tR tG
   go_wp2_with fail
   clear c0 c1
   go_loopw [5] (λk wr=>∃i:bj,i<=m.fs.length/\k= Z U (i:aw)/\(∀f∈m.fs.take i,m.known f.ret=ti/\∀y∈f.vs,m.known y.ty=ti)/\aE W1.heap.size W1 wr) (λk _=>m.fs.length-(dp k).toNat)
   case atStart=>exact⟨0,cM _,rfl,by simp,HB.out⟩
   case round=>
    rename World=>wp;obtain⟨i,hi,rfl,z,hb⟩:=hrel;obtain⟨c0,c1,tG,tR⟩:=J.out wp hb;have xp:=zH z;have vy:=zH hb;have xr:=zH tR
    by_cases tE:i<m.fs.length
    ·obtain⟨f,A⟩:∃y,m.fs[i]?=tf y:=⟨_,ap tE⟩
     have ue:=ci A;obtain⟨g,o,K,ws,q1⟩:=tG.frow (by intro e;rw[e] at tE;simp at tE);have u:cg (∀W,aE W1.heap.size W1 W->W.cell? ⟨N,0,th⟩=tf (tn m.sA m.ss.length m.sC)/\W.cell? ⟨N,1,th⟩=tf (tn (tf ⟨g,o,th⟩) m.fs.length m.fC)/\W.cell? ⟨g,o+i*8+2,th⟩=tf (tn f.c.varsA f.vs.length f.c.varsC)/\W.cell? ⟨g,o+i*8+3,th⟩=tf (tt f.c.rp)/\W.cell? ⟨g,o+i*8+3+1,th⟩=tf (tm f.c.rto)/\f.inn W):=λW hW=>by
      obtain⟨k0,k1,k2,_⟩:=J.out W hW;obtain⟨g2,xf,hA2,_,x⟩:=k2.frow (by intro e;rw[e] at tE;simp at tE);rw[K] at hA2;simp only[dj,eV,and_true] at hA2;refine⟨k0,by rw[<-K];exact k1, ?_,by rw[hA2.1,hA2.2];exact x i f A 3 _ rfl,by rw[hA2.1,hA2.2];exact x i f A 4 _ rfl,k2.fin f ue⟩;rw[<-(k2.fin f ue).nvars,hA2.1,hA2.2];exact x i f A 2 _ rfl
     have xl:(i:aw)<(m.fs.length:aw):=by omega
     have HS:=zH A;have we:=zH ue;have HA:=zH K;have uv:=wk.out f ue;obtain⟨d,G⟩:=zE (m.known f.ret);have ud:=zH G;have v:cg (∀p:BW wp,aE W1.heap.size W1 p.w):=λp=>vy.out.trans (p.h.mono vy.out.size);have HC:cg (∀p:BW wp,zP 85 #[tv #[tn m.sA m.ss.length m.sC,tn (tf ⟨g,o,th⟩) m.fs.length m.fC],tv #[tt f.c.rp,tm f.c.rto]] p.w (tt d)):=λp=>by
      rw[<-HA.out,<-G];exact vc.out p.w (v.out p) f.ret
     have m0:∀p:BW wp,p.w.cell? ⟨N,0,th⟩=tf (tn m.sA m.ss.length m.sC):=λp=>(u.out p.w (v.out p)).1;have m1:∀p:BW wp,p.w.cell? ⟨N,1,th⟩=tf (tn (tf ⟨g,o,th⟩) m.fs.length m.fC):=λp=>(u.out p.w (v.out p)).2.1;have m3:∀p:BW wp,p.w.cell? ⟨g,o+i*8+3,th⟩=tf (tt f.c.rp):=λp=>(u.out p.w (v.out p)).2.2.2.1;have m4:∀p:BW wp,p.w.cell? ⟨g,o+i*8+3+1,th⟩=tf (tm f.c.rto):=λp=>(u.out p.w (v.out p)).2.2.2.2.1;clear z hb tR A tG G ue K q1
     go_wp2_with fail
     clear c0 c1;refine zQ ?_
     repeat (go_big_quiet_step (first|(go_at_call 85;exact bg (HC.out _))))
     refine dr ?_;rintro _ ⟨p,rfl⟩;have vm:cg (aE w.heap.size w p.w):=(J.out p.w (v.out p)).2.2.2;clear m0 m1 m3 m4;cases d with
     |false=>
      have tP:cg (R=ti):=by unfold cg;rw[<-HR.out];exact C9 we.out ud.out
      go_wp2;go_ret;rw[tP.out];exact⟨rfl,vm.out⟩
     |true=>
      go_wp2_with fail
      go_loopw [6] (λk wr=>∃q:bj,q<=f.vs.length/\k= Z U (q:aw)/\(∀y∈f.vs.take q,m.known y.ty=ti)/\aE W1.heap.size W1 wr) (λk _=>f.vs.length-(dp k).toNat)
      case atStart=>exact⟨0,cM _,rfl,by simp,v.out p⟩
      case round=>
       obtain⟨q,hq,rfl,E,tD⟩:=hrel;have vf:=zH E;have tM:=zH tD;obtain⟨c0,c1,c2,_,_,vr⟩:=u.out wr tD
       by_cases vt:q<f.vs.length
       ·obtain⟨y,hy⟩:∃y,f.vs[q]?=tf y:=⟨_,ap vt⟩
        obtain⟨f1,fo,ub,uc,x⟩:=vr.vars (by intro e;rw[e] at vt;simp at vt);have yi:(q:aw)<(f.vs.length:aw):=by omega
        have HY:=zH hy;obtain⟨d,G⟩:=zE (m.known y.ty);have wg:=zH G;have tS:cg (∀p:BW wr,aE W1.heap.size W1 p.w):=λp=>tM.out.trans (p.h.mono tM.out.size);have xt:cg (∀p:BW wr,zP 85 #[tv #[tn m.sA m.ss.length m.sC,tn (tf ⟨g,o,th⟩) m.fs.length m.fC],tv #[tt y.ptr,tm y.tgt]] p.w (tt d)):=λp=>by
         rw[<-HA.out,<-G];exact vc.out p.w (tS.out p) y.ty
        have m0:∀p:BW wr,p.w.cell? ⟨N,0,th⟩=tf (tn m.sA m.ss.length m.sC):=λp=>(u.out p.w (tS.out p)).1;have m1:∀p:BW wr,p.w.cell? ⟨N,1,th⟩=tf (tn (tf ⟨g,o,th⟩) m.fs.length m.fC):=λp=>(u.out p.w (tS.out p)).2.1;have m2:∀p:BW wr,p.w.cell? ⟨g,o+i*8+2,th⟩=tf (tn (tf ⟨f1,fo,th⟩) f.vs.length f.c.varsC):=λp=>by rw[<-ub];exact(u.out p.w (tS.out p)).2.2.1
        have m3:∀p:BW wr,p.w.cell? ⟨f1,fo+q*3,th⟩=tf (tt y.ptr):=λp=>by rw[p.h.cell (p:=⟨f1,_,th⟩) uc];exact x q y hy 0 _ rfl
        have m4:∀p:BW wr,p.w.cell? ⟨f1,fo+q*3+1,th⟩=tf (tm y.tgt):=λp=>by rw[p.h.cell (p:=⟨f1,_,th⟩) uc];exact x q y hy 1 _ rfl
        clear E tD vr hy G ub x
        go_wp2_with fail
        clear c0 c1 c2;refine zQ ?_
        repeat (go_big_quiet_step (first|(go_at_call 85;exact bg (xt.out _))))
        refine dr ?_;rintro _ ⟨p,rfl⟩;have xF:cg (aE w.heap.size w p.w):=(J.out p.w (tS.out p)).2.2.2;clear m0 m1 m2 m3 m4;cases d with
        |false=>
         have tP:cg (R=ti):=by unfold cg;rw[<-HR.out];exact Da we.out (ci HY.out) wg.out
         go_wp2;go_ret;rw[tP.out];exact⟨rfl,xF.out⟩
        |true=>
         go_wp2;go_roundw
         case rel=>exact⟨q+1,by omega,by go_num,dw (p:=λy:Vr=>m.known y.ty=ti) vf.out HY.out wg.out,tS.out p⟩
         case measure=>simp[dp];omega
       ·have xT:q=f.vs.length:=by omega
        subst xT;rw[cL] at E;have vq:=zH E;clear tD E vr;go_wp2;go_roundw
        case rel=>exact⟨i+1,by omega,by go_num,dw (p:=λf:Fn=>m.known f.ret=ti/\∀y∈f.vs,m.known y.ty=ti) xp.out HS.out ⟨ud.out,vq.out⟩,tM.out⟩
        case measure=>simp[dp];omega
    ·have vp:i=m.fs.length:=by omega
     subst vp;rw[cL] at z;have tP:cg (R=tj):=by unfold cg;rw[<-HR.out];exact Db HZ.out z
     clear z hb tR tG;go_wp2;go_ret;rw[tP.out];exact⟨rfl,xr.out⟩
theorem su (m:Mo)(w:World)(h:iJ w m):
  zP 13 #[tv m.cells] w (Z U (gZ m)):=by
 obtain⟨R,hR⟩:=zE (gZ m);have HR:cg (R=if 30<m.ss.length\/60<m.fs.length then 2
  else if dh m=ti then 6
  else if (bO m).all m.known=tj then 5
  else if aQ (codeF m) m.fs≠0 then aQ (codeF m) m.fs
  else bN (decide (0<=m.fnIx dA)&&(match m.fs[(m.fnIx dA).toNat]? with
   |some g=>decide (g.c.par=0)&& !g.c.rp
   |none=>tj)) 9):=hR.symm
 rw[hR];obtain⟨N,hN⟩:=zE w.heap.size;obtain⟨W1,up⟩:=zE (w.alloc (tA m.cells 25));have yk:=ik up hN;have yp:W1.heap.size=N+1:=by rw[<-up];simp[hN]
 have yq:W1.heap[N]?=tf (tA m.cells 25 (0,0)):=by rw[<-up,<-hN];exact alloc_at _ _
 have AD:cg (∀W,aE N w W->iJ W m):=λW hW=>⟨h.mo.below (by rw[hN];exact hW),h.sl,h.fl,h.fd,h.vl,h.al⟩
 have J:cg (∀W,aE W1.heap.size W1 W->W.heap[N]?=tf (tA m.cells 25 (0,0))/\W.cell? ⟨N,0,th⟩=tf (tn m.sA m.ss.length m.sC)/\W.cell? ⟨N,1,th⟩=tf (tn m.fA m.fs.length m.fC)/\iJ W m/\aE N w W):=λW hW=>by
  have q1:=(hW.block N (by omega)).trans yq;have h3:=yk.trans (hW.mono (show N<=W1.heap.size by omega));exact⟨q1,by rw[bt _ _ _ _ _ _ q1];rfl,by rw[bt _ _ _ _ _ _ q1];rfl,AD.out W h3,h3⟩
 have we:=up;simp only[Mo.cells] at we;have yr:=zH we;have By:=zH yp;have AE:cg (∀W,aE N w W->N<=W.heap.size):=λW hW=>by have:=hW.size;omega
 unfold zP;rw[hN];simp only[Mo.cells];clear h up we yk yq hR yp;obtain⟨hr,c0,c1,_,_⟩:=J.out W1 (aq _ _);have yv:=zH hr;clear hr;go_enter func13,ntmps13
 go_upto_region 1 with(fail)
 rw[yr.out];clear yr hN
 by_cases g1:30<m.ss.length
 ·have A:cg (R=2):=by unfold cg;rw[HR.out,cH (.inl g1)]
  clear HR;go_wp2;go_ret;rw[A.out];exact⟨rfl,(J.out W1 (aq _ _)).2.2.2.2⟩
 by_cases g2:60<m.fs.length
 ·have A:cg (R=2):=by unfold cg;rw[HR.out,cH (.inr g2)]
  clear HR;go_wp2;go_ret;rw[A.out];exact⟨rfl,(J.out W1 (aq _ _)).2.2.2.2⟩
 have ur:cg (R=if dh m=ti then 6
  else if (bO m).all m.known=tj then 5
  else if aQ (codeF m) m.fs≠0 then aQ (codeF m) m.fs
  else bN (decide (0<=m.fnIx dA)&&(match m.fs[(m.fnIx dA).toNat]? with
   |some g=>decide (g.c.par=0)&& !g.c.rp
   |none=>tj)) 9):=by unfold cg;rw[HR.out,bw (by omega)]
 clear HR;have vt:cg (zP 47 #[tv m.cells] W1 (tt (dh m))):=by
  obtain⟨_,_,_,K,_⟩:=J.out W1 (aq _ _);exact xC m W1 K.mo K.sl K.fl K.fd
 obtain⟨tw,yy⟩:=zE (dh m);rw[yy] at vt ur;clear yy
 go_upto_region 3 with(fail)
 cases tw with
 |true=>
  have A:cg (R=6):=by unfold cg;rw[ur.out,cH rfl]
  clear ur
  go_wp2_with (first
   |(refine cf rfl 25 _ rfl N rfl 25 m.cells (0,0) _ yv.out fh rfl (by kernel_rfl) ?_)
   |(go_at_call 47;refine vt.out.mono ?_;rintro e w3 ⟨rfl,tP⟩;have tR:=zH tP;clear tP))
  go_ret;rw[A.out];exact⟨rfl,(J.out w3 tR.out).2.2.2.2⟩
 |false=>
 have uv:cg (R=if (bO m).all m.known=tj then 5
  else if aQ (codeF m) m.fs≠0 then aQ (codeF m) m.fs
  else bN (decide (0<=m.fnIx dA)&&(match m.fs[(m.fnIx dA).toNat]? with
   |some g=>decide (g.c.par=0)&& !g.c.rp
   |none=>tj)) 9):=by unfold cg;rw[ur.out,bw (by simp)]
 clear ur
 go_upto_region 5 with(first
   |(refine cf rfl 25 _ rfl N rfl 25 m.cells (0,0) _ yv.out fh rfl (by kernel_rfl) ?_)
   |(go_at_call 47;refine vt.out.mono ?_;rintro e w3 ⟨rfl,tP⟩;have tR:=zH tP;clear tP))
 clear c0 c1 vt;obtain⟨hr,c0,c1,K,_⟩:=J.out w3 tR.out;have wg:=zH hr;have ub:cg (zP 48 #[tv m.cells] w3 (tt (!(bO m).all m.known))):=sj m w3 K.mo K.sl K.fl K.fd K.vl;clear hr K;obtain⟨un,vu⟩:=zE ((bO m).all m.known);rw[vu] at ub uv;cases un with
 |false=>
  have A:cg (R=5):=by unfold cg;rw[uv.out,cH rfl]
  clear uv vu;rw[qk] at ub
  go_wp2_with (first
   |(refine cf rfl 25 _ rfl N rfl 25 m.cells (0,0) _ wg.out fh rfl (by kernel_rfl) ?_)
   |(go_at_call 48;refine ub.out.mono ?_;rintro e w4 ⟨rfl,ux⟩;have wj:=zH ux;clear ux))
  go_ret;rw[A.out];exact⟨rfl,(J.out w4 (tR.out.trans (wj.out.mono tR.out.size))).2.2.2.2⟩
 |true=>
 have vx:cg (R=if aQ (codeF m) m.fs≠0 then aQ (codeF m) m.fs
  else bN (decide (0<=m.fnIx dA)&&(match m.fs[(m.fnIx dA).toNat]? with
   |some g=>decide (g.c.par=0)&& !g.c.rp
   |none=>tj)) 9):=by unfold cg;rw[uv.out,bw (by simp)]
 have AF:cg (∀t∈bO m,m.known t=ti):=gn.1 vu;clear uv vu;rw[rK] at ub
 go_upto_region 7 with(first
   |(refine cf rfl 25 _ rfl N rfl 25 m.cells (0,0) _ wg.out fh rfl (by kernel_rfl) ?_)
   |(go_at_call 48;refine ub.out.mono ?_;rintro e w4 ⟨rfl,ux⟩;have wj:cg (aE W1.heap.size W1 w4):=tR.out.trans (ux.mono tR.out.size);clear ux))
 clear c0 c1 ub wg tR
 go_wp2_with fail
 go_loopw [3] (λk wr=>∃j:bj,j<=m.fs.length/\k= Z U (j:aw)/\(∀f∈m.fs.take j,codeF m f=0)/\aE W1.heap.size W1 wr) (λk _=>m.fs.length-(dp k).toNat)
 case atStart=>exact⟨0,cM _,rfl,by simp,wj.out⟩
 case round=>
  rename World=>G;obtain⟨j,hj,rfl,hz,hb⟩:=hrel;obtain⟨hr,c0,c1,tG,wk⟩:=J.out G hb;have HZ:=zH hz;have HB:=zH hb;have yW:=zH wk;have AH:=zH hr
  by_cases wl:j<m.fs.length
  ·obtain⟨f,hs⟩:∃y,m.fs[j]?=tf y:=⟨_,ap wl⟩
   have tU:=ci hs;obtain⟨g1,zc,hA,BE,q1⟩:=tG.mo.frow (by intro e;rw[e] at wl;simp at wl);have AI:cg (∀k u,f.cells.toList[k]?=tf u->G.cell? ((⟨g1,zc+j*8,th⟩:fg).add k)=tf u):=λk u hu=>by rw[cU];exact q1 j f hs k u hu
   have hst:∀(c:dl cw),c.size=8->(dd ⟨G.heap.size,0,th⟩ f.cells.toList 0).run am (G.alloc (tA c 38))= .ok () (G.alloc (tA f.cells 38)):=λc hc=>
    cr (P:=am) G 38 c f.cells (by show _=tf 8;kernel_rfl) hc (fu f)
   obtain⟨P,hP⟩:=zE G.heap.size;obtain⟨E,tW⟩:=zE (G.alloc (tA f.cells 38));have AK:E.heap.size=P+1:=by rw[<-tW];simp[hP]
   have zd:E.heap[P]?=tf (tA f.cells 38 (0,0)):=by rw[<-tW,<-hP];exact alloc_at _ _
   have tP:aE W1.heap.size W1 E:=by rw[<-tW];exact hb.alloc hb.size _
   have ws:=tG.mo.fin f tU;have BT:=tG.vl f tU;have tM:cg (∀W,aE E.heap.size E W->aE W1.heap.size W1 W/\W.heap[P]?=tf (tA f.cells 38 (0,0))/\W.cell? ⟨P,1,th⟩=tf (Z U f.c.par)/\W.cell? ⟨P,2,th⟩=tf (tn f.c.varsA f.vs.length f.c.varsC)/\W.cell? ⟨P,7,th⟩=tf (tn f.c.insA f.c.ins.length f.c.insC)):=λW hW=>by
    have q:=(hW.block P (by omega)).trans zd;refine⟨tP.trans (hW.mono tP.size),q,by rw[bt _ _ _ _ _ _ q];rfl, ?_,by rw[bt _ _ _ _ _ _ q];rfl⟩;rw[bt _ _ _ _ _ _ q,<-ws.nvars];rfl
   have BY:(j:aw)<(m.fs.length:aw):=by omega
   have HS:=zH hs;have B4:=zH tU;have AM:cg (∀W,aE E.heap.size E W->nR W m f/\∀i∈f.c.ins,i.args_in W):=λW hW=>by
    obtain⟨_,_,_,K,_⟩:=J.out W (tM.out W hW).1;have:=K.mo.fin f tU;exact⟨Bf K.mo this,λi hi=>this.code.args i hi⟩
   have AN:cg (∀i∈f.c.ins,i.args.length<=40):=tG.al f tU;have AS:cg (∀v,isVar f.vs.length v=ti->m.known (ax f.vs v)=ti):=λv hv=>AF.out _ (by
    obtain⟨h0,h1⟩:=dW.1 hv;obtain⟨k,rfl⟩:∃k:bj,v=(k:aw):=⟨v.toNat,by omega⟩
    obtain⟨x,hx⟩:∃x,f.vs[k]?=tf x:=⟨_,ap (by omega)⟩
    have e:ax f.vs (k:aw)=x.ty:=by unfold ax;rw[ep,hx]
    rw[e];unfold bO;exact dg.2 (.inr (iv.2 ⟨f,tU,mS _ (fL.2 ⟨x,ci hx,rfl⟩)⟩)))
   have zj:cg (f.c.ins≠[]->∃b o,f.c.insA=tf ⟨b,o,th⟩/\∀W,aE E.heap.size E W->b<W.heap.size/\∀(k:bj)(i:Ins),f.c.ins[k]?=tf i->∀q u,i.cells.toList[q]?=tf u->W.cell? ⟨b,o+k*13+q,th⟩=tf u):=λAT=>by
    obtain⟨b,o,hA,hb,hc⟩:=ws.code.row AT;refine⟨b,o,hA,λW hW=> ?_⟩;have zp:aE G.heap.size G W:=by
     have h0:=gy tW;exact h0.trans (hW.mono h0.size)
    refine⟨by have:=zp.size;omega,λk i hi q u hu=> ?_⟩;rw[zp.cell (p:=⟨b,_,th⟩) hb];exact hc k i hi q u hu
   obtain⟨z,vc⟩:=zE (codeF m f);have tD:cg (z=if 300<f.vs.length\/f.c.ins.length<1\/3000<f.c.ins.length then 2
    else if f.c.par<0\/(f.vs.length:aw)<f.c.par then 15
    else if aQ (aF m f) f.c.ins≠0 then aQ (aF m f) f.c.ins
    else bN (match f.c.ins.getLast? with
     |some i=>decide (16<=i.op)
     |none=>tj) 15):=vc.symm
   have tE:cg (z≠0->R=z):=λh0=>by
    have e:=jP (f:=codeF m) hz hs (by rw[vc];exact h0);rw[vx.out,e,vc,cH h0]
   have uc:cg (z=0->∀f∈m.fs.take (j+1),codeF m f=0):=λh0=>dw (p:=λf=>codeF m f=0) hz hs (by rw[vc];exact h0);rw[hP] at hst;rw[tW] at hst;rw[hA] at c1;have AW:=zH tW;have HP:=zH hP;clear hz hb wk hs tU tG ws q1 vc hr hA tP zd AK tW
   go_upto_region 11 with(refine ay rfl 38 _ rfl ⟨g1,zc+j*8,th⟩ rfl f.cells _ AI.out cJ rfl (by kernel_rfl) ?_)
   clear c0 c1 hst AW;have vd:cg (aE N w E):=(J.out E (tM.out E (aq _ _)).1).2.2.2.2;obtain⟨_,_,p1,p2,p7⟩:=tM.out E (aq _ _)
   by_cases d1:300<f.vs.length
   ·have A:cg (R=2):=by
     have e:z=2:=by rw[tD.out,cH (.inl d1)]
     unfold cg;rw[tE.out (by rw[e];decide),e]
    clear tD tE uc;go_wp2;go_ret;rw[A.out];exact⟨rfl,vd.out⟩
   by_cases d2:f.c.ins.length<1
   ·have A:cg (R=2):=by
     have e:z=2:=by rw[tD.out,cH (.inr (.inl d2))]
     unfold cg;rw[tE.out (by rw[e];decide),e]
    clear tD tE uc;go_wp2;go_ret;rw[A.out];exact⟨rfl,vd.out⟩
   by_cases d3:3000<f.c.ins.length
   ·have A:cg (R=2):=by
     have e:z=2:=by rw[tD.out,cH (.inr (.inr d3))]
     unfold cg;rw[tE.out (by rw[e];decide),e]
    clear tD tE uc;go_wp2;go_ret;rw[A.out];exact⟨rfl,vd.out⟩
   by_cases d4:f.c.par<0
   ·have A:cg (R=15):=by
     have e:z=15:=by rw[tD.out,bw (by omega),cH (.inl d4)]
     unfold cg;rw[tE.out (by rw[e];decide),e]
    clear tD tE uc;go_wp2;go_ret;rw[A.out];exact⟨rfl,vd.out⟩
   by_cases d5:(f.vs.length:aw)<f.c.par
   ·have A:cg (R=15):=by
     have e:z=15:=by rw[tD.out,bw (by omega),cH (.inr d5)]
     unfold cg;rw[tE.out (by rw[e];decide),e]
    clear tD tE uc;go_wp2;go_ret;rw[A.out];exact⟨rfl,vd.out⟩
   have xf:cg (z=if aQ (aF m f) f.c.ins≠0 then aQ (aF m f) f.c.ins
    else bN (match f.c.ins.getLast? with
     |some i=>decide (16<=i.op)
     |none=>tj) 15):=by unfold cg;rw[tD.out,bw (by omega),bw (by omega)]
   clear tD
   go_wp2_with fail
   clear p1 p2 p7
   go_loopw [6] (λk wr=>∃q:bj,q<=f.c.ins.length/\k= Z U (q:aw)/\(∀i∈f.c.ins.take q,aF m f i=0)/\aE E.heap.size E wr) (λk _=>f.c.ins.length-(dp k).toNat)
   case atStart=>exact⟨0,cM _,rfl,by simp,aq _ _⟩
   case round=>
    obtain⟨q,hq,rfl,vf,ud⟩:=hrel;have xj:=zH vf;have xl:=zH ud
    by_cases xo:q<f.c.ins.length
    ·obtain⟨i,hi⟩:∃y,f.c.ins[q]?=tf y:=⟨_,ap xo⟩
     have xp:=ci hi;obtain⟨ib,io,vh,vm⟩:=zj.out (by intro e;rw[e] at xo;simp at xo);have B5:(q:aw)<(f.c.ins.length:aw):=by omega
     have HI:=zH hi;have ua:cg (∀p:BW wr,aE E.heap.size E p.w):=λp=>xl.out.trans (p.h.mono xl.out.size);have A1:cg (∀(p:BW wr) k u,m.cells.toList[k]?=tf u->p.w.cell? ((⟨N,0,th⟩:fg).add k)=tf u):=λp=>dC (J.out p.w (tM.out p.w (ua.out p)).1).1;have A2:cg (∀(p:BW wr) k u,f.cells.toList[k]?=tf u->p.w.cell? ((⟨P,0,th⟩:fg).add k)=tf u):=λp=>dC (tM.out p.w (ua.out p)).2.1;have A3:cg (∀(p:BW wr) k u,i.cells.toList[k]?=tf u->p.w.cell? ((⟨ib,io+q*13,th⟩:fg).add k)=tf u):=λp k u hu=>by
      rw[cU];exact(vm p.w (ua.out p)).2 q i hi k u hu
     have p7:∀p:BW wr,p.w.cell? ⟨P,7,th⟩=tf (tn (tf ⟨ib,io,th⟩) f.c.ins.length f.c.insC):=λp=>by rw[<-vh];exact(tM.out p.w (ua.out p)).2.2.2.2
     obtain⟨d,hd⟩:=zE (aF m f i);have xr:=zH hd;have A4:cg (∀p:BW wr,zP 49 #[tv m.cells,tv f.cells,tv i.cells] p.w (Z U d)):=λp=>by
      obtain⟨h1,h2⟩:=AM.out p.w (ua.out p);rw[<-hd];exact si m f i p.w h1 (h2 i xp) (AN.out i xp) AS.out
     clear vf ud hi xp vh vm hd
     go_wp2_with fail
     refine zQ ?_
     repeat (first
      |(go_big_quiet_want;(first
        |(refine jH 25 _ rfl ⟨N,0,th⟩ rfl m.cells _ A1.out fh rfl (by kernel_rfl) ?_)
        |(refine jH 38 _ rfl ⟨P,0,th⟩ rfl f.cells _ A2.out cJ rfl (by kernel_rfl) ?_)
        |(refine jH 42 _ rfl ⟨ib,io+q*13,th⟩ rfl i.cells _ A3.out cA rfl (by kernel_rfl) ?_));(simp only[cY,bh,bx,ca]);go_big_quiet_on)
      |(go_big_quiet_step (first|(go_at_call 49;exact bg (A4.out _)))))
     refine dr ?_;rintro _ ⟨p,rfl⟩;have xt:cg (aE N w p.w):=(J.out p.w (tM.out p.w (ua.out p)).1).2.2.2.2;clear p7
     by_cases vp:d=0
     ·subst vp
      go_wp2;go_roundw
      case rel=>exact⟨q+1,by omega,by go_num,dw (p:=λi:Ins=>aF m f i=0) xj.out HI.out xr.out,ua.out p⟩
      case measure=>simp[dp];omega
     ·have B6:(d==0)=tj:=by rw[cN];exact vp
      have A:cg (R=d):=by
       have e:=jP (f:=aF m f) xj.out HI.out (by rw[xr.out];exact vp);have e2:z=d:=by rw[xf.out,e,xr.out,cH vp]
       unfold cg;rw[tE.out (by rw[e2];exact vp),e2]
      go_wp2;go_ret;rw[A.out];exact⟨rfl,xt.out⟩
    ·have A5:q=f.c.ins.length:=by omega
     subst A5;rw[cL] at vf;obtain⟨i,hi⟩:∃i,f.c.ins[f.c.ins.length-1]?=tf i:=⟨_,ap (by omega)⟩
     have zr:cg (z=bN (decide (16<=i.op)) 15):=by
      unfold cg;rw[xf.out,gV vf,bw (by simp),List.getLast?_eq_getElem?,hi]
     obtain⟨ib,io,vh,vm⟩:=zj.out (by intro e;rw[e] at hi;simp at hi);obtain⟨L,hL⟩:∃L,f.c.ins.length=L+1:=⟨f.c.ins.length-1,by omega⟩
     rw[hL,Nat.add_sub_cancel] at hi;have i0:wr.cell? ⟨ib,io+L*13,th⟩=tf (Z U i.op):=(vm wr ud).2 L i hi 0 _ rfl;have p7:wr.cell? ⟨P,7,th⟩=tf (tn (tf ⟨ib,io,th⟩) (L+1) f.c.insC):=by rw[<-vh,<-hL];exact(tM.out wr ud).2.2.2.2
     have B7:((L+1:bj):aw)-1=(L:aw):=by omega
     have xt:cg (aE N w wr):=(J.out wr (tM.out wr ud).1).2.2.2.2;have B8:=zH hL;have B9:L<=3000:=by omega
     clear vf ud hi vm xf xj vh;rw[hL]
     by_cases A6:i.op<16
     ·have A:cg (R=15):=by
       have e:z=15:=by rw[zr.out,cm (by omega)];rfl
       unfold cg;rw[tE.out (by rw[e];decide),e]
      go_wp2;go_ret;rw[A.out];exact⟨rfl,xt.out⟩
     ·have Bk:cg (z=0):=by unfold cg;rw[zr.out,cR (by omega)];rfl
      have Cd:decide (i.op<16)=tj:=cm A6;go_wp2;go_roundw
      case rel=>exact⟨j+1,by omega,by go_num,uc.out Bk.out,(tM.out wr xl.out).1⟩
      case measure=>simp[dp];omega
  ·have Bm:j=m.fs.length:=by omega
   subst Bm;rw[cL] at hz;have vq:cg (R=bN (decide (0<=m.fnIx dA)&&(match m.fs[(m.fnIx dA).toNat]? with
    |some g=>decide (g.c.par=0)&& !g.c.rp
    |none=>tj)) 9):=by
    unfold cg;rw[vx.out,gV hz,bw (by simp)]
   obtain⟨kx,ue⟩:=zE (m.fnIx dA);rw[ue] at vq;have zs:cg (zP 50 #[tv m.cells,tm ⟨#[109,97,105,110]⟩] G (Z U kx)):=by
    rw[<-ue];exact mG m dA G tG.mo.nf tG.mo.frow
   have xF:cg (∀W b,zP 51 #[tt b,Z U 9] W (Z U (bN (!b) 9))):=λW b=>bn b 9 W;have xT:cg (∀W W',aE G.heap.size G W->aE W.heap.size W W'->aE N w W'):=λW W' h1 h2=>yW.out.trans ((h1.trans (h2.mono h1.size)).mono (AE.out _ yW.out));have Bs:=zH tG.mo.frow;clear hz hb wk hr
   go_upto_region 25 with(first
    |(refine cf rfl 25 _ rfl N rfl 25 m.cells (0,0) _ AH.out fh rfl (by kernel_rfl) ?_)
    |(go_at_call 50;refine zs.out.mono ?_;rintro e w8 ⟨rfl,zv⟩;have vy:=zH zv;clear zv))
   clear c0 c1 zs;rcases mU (λf:Fn=>f.c.nm==dA) m.fs with e|⟨k,f,e,hf,_⟩
   ·have ya:kx= -1:=by rw[<-ue];exact e
    subst ya;have A:cg (R=9):=by unfold cg;rw[vq.out];rfl
    clear tG ue vx vq e Bs
    go_wp2_with (go_at_call 51;refine(xF.out _ _).mono ?_;rintro e w9 ⟨rfl,tS⟩;have vr:=zH tS;clear tS)
    go_ret;rw[A.out];exact⟨rfl,xT.out _ _ vy.out vr.out⟩
   ·have ya:kx=(k:aw):=by rw[<-ue];exact e
    subst ya;have An:=(bo.1 hf).1;have Cl:(k:aw)<(m.fs.length:aw):=by omega
    have A:cg (R=bN (decide (f.c.par=0)&& !f.c.rp) 9):=by
     unfold cg;rw[vq.out,ep,hf,cR (by omega)];rfl
    obtain⟨fb,yb,At,yd,ye⟩:=tG.mo.frow (by intro e;rw[e] at An;simp at An);have Ax:cg (∀W8,aE G.heap.size G W8->W8.cell? ⟨fb,yb+k*8+1,th⟩=tf (Z U f.c.par)/\W8.cell? ⟨fb,yb+k*8+3,th⟩=tf (tt f.c.rp)/\W8.cell? ⟨N,1,th⟩=tf (tn (tf ⟨fb,yb,th⟩) m.fs.length m.fC)):=by
     intro W8 h8;refine⟨?_, ?_, ?_⟩
     ·rw[h8.cell (p:=⟨fb,_,th⟩) yd];exact ye k f hf 1 _ rfl
     ·rw[h8.cell (p:=⟨fb,_,th⟩) yd];exact ye k f hf 3 _ rfl
     ·rw[<-At];exact(J.out W8 (HB.out.trans (h8.mono HB.out.size))).2.2.1
    have Cp:max (k:aw) 0=(k:aw):=by omega
    have CA:k<=60:=by omega
    have CC:decide ((k:aw)<0)=tj:=cm (by omega);clear tG ue vx vq e yd ye hf At;obtain⟨u1,u2,u3⟩:=Ax.out w8 vy.out;clear Ax
    by_cases hp:f.c.par=0
    ·rw[hp] at u1
     have yi:cg (R=bN (!f.c.rp) 9):=by unfold cg;rw[A.out,hp];rfl
     go_wp2_with (go_at_call 51;refine(xF.out _ _).mono ?_;rintro e w9 ⟨rfl,tS⟩;have vr:=zH tS;clear tS)
     go_ret;rw[yi.out];exact⟨rfl,xT.out _ _ vy.out vr.out⟩
    ·have yi:cg (R=9):=by unfold cg;rw[A.out,cm hp];rfl
     have CD:(f.c.par==0)=tj:=by rw[cN];exact hp
     go_wp2_with (go_at_call 51;refine(xF.out _ _).mono ?_;rintro e w9 ⟨rfl,tS⟩;have vr:=zH tS;clear tS)
     go_ret;rw[yi.out];exact⟨rfl,xT.out _ _ vy.out vr.out⟩
end Go.Proofs.YtjomgckjhcfbgaaGreat
