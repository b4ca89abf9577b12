/- Walks. -/
import Derived.Test.YtjomgckjhcfbgaaGreatP10
set_option maxRecDepth 100000
set_option maxHeartbeats 64000000
set_option linter.all false
namespace Go.Proofs.YtjomgckjhcfbgaaGreat
open Go.RowKit
open _root_.List renaming getElem?_eq_getElem→ap,getElem?_eq_some_iff→bo,mem_of_getElem?→ci,take_length→cL,mem_singleton→cP,map_append→et,mem_map→fL,any_eq_true→js,any_eq_false→j8,take_add_one→kA,map_cons→li,pairwise_iff_getElem→n3,map_nil→oT,nodup_append→pk,pairwise_map→rh,mem_iff_getElem?→sr
open Go.RowKit.Below renaming refl→aq
open _root_ renaming Int→aw,Nat→bj,ByteArray→bl,List→bp,decide_eq_false→cm,if_pos→cH,beq_eq_false_iff_ne→cN,decide_eq_true→cR,absurd→fz,bne_iff_ne→oe
open Go.RowKit renaming Below→aE,Hid→cg,intOf→dp
open Go renaming cell_of_row→bt,wpQuiet_nil→dr,beq_toListBytes→fx,below_drewN→hU
open _root_.Option.some renaming inj→cy,injEq→dj
open _root_.Nat renaming zero_le→cM,not_lt_zero→nB
open Go.Addr.mk renaming injEq→eV
open _root_.Bool renaming or_eq_true→ip,or_false→sT,true→ti,false→tj
open _root_.Option renaming some→tf,none→th
open Go.Value renaming string→tm,slice→tn,bool→tt,agg→tv,int→Z
open Go.Obj renaming cells→tA
open Go.IntKind renaming i64→U
open Tryz
theorem zq {α:Type}{nm:α->bl}{xs:bp α}(h:∀(q:bj)(x:α),xs[q]?=tf x->fV (λy=>nm y==nm x) xs=(q:aw)):(xs.map nm).Nodup:=by
 rw[List.Nodup,rh,n3];intro i j hi f o e;have d:=h j xs[j] (ap f);unfold fV at d;have t:xs.findIdx (λy=>nm y==nm xs[j])<=i:=by
  apply Nat.le_of_not_lt;intro g;have:=List.not_of_lt_findIdx g;simp[e] at this
 rw[cH (by omega)] at d;omega
theorem vL {α:Type}{nm:α->bl}{xs:bp α}{q:bj}{x:α}(d:xs[q]?=tf x)(h:fV (λy=>nm y==nm x) xs≠(q:aw)):¬(xs.map nm).Nodup:=by
 intro f;rw[List.Nodup,rh,n3] at f;obtain⟨g,e⟩:=bo.1 d;refine h (iI (j:=q) (y:=x) (λz o=> ?_) d (by simp));obtain⟨i,hi,t⟩:=List.mem_take_iff_getElem.1 o;have:=f i q (by omega) g (by omega);rw[<-t,cN,<-e];exact this
def xA (l:bp Fd)(k:bj):Prop:=((l.take k).map Fd.nm).Nodup
theorem xA.next {l:bp Fd}{k:bj}{x:Fd}(h:xA l k)(d:l[k]?=tf x)(f:∀z∈l.take k,(z.nm==x.nm)=tj):xA l (k+1):=by
 unfold xA;obtain⟨o,e⟩:=bo.1 d;rw[kA,d,et,pk];refine⟨h,by simp,λa g b hb=> ?_⟩;obtain⟨z,j,rfl⟩:=fL.1 g;simp only[Option.toList_some,li,oT,cP] at hb;subst hb;have:=f z j
 rwa [cN] at this
theorem zt {m:Mo}{s:St}{j k:bj}{x y:Fd}(f:s∈m.ss)(g:s.fs[j]?=tf x)(h:s.fs[k]?=tf y)(o:j<k)(e:x.nm=y.nm):dh m=ti:=by
 have d:¬(s.fs.map Fd.nm).Nodup:=by
  intro d;rw[List.Nodup,rh,n3] at d;obtain⟨q,t⟩:=bo.1 g;obtain⟨u,v⟩:=bo.1 h;exact d j k q u o (by rw[t,v];exact e)
 unfold dh;rw[ip,ip,js];exact .inl (.inl ⟨s,f,cR d⟩)
theorem xB {m:Mo}(h:¬(m.ss.map λs=>s.s.nm).Nodup):dh m=ti:=by
 unfold dh;rw[ip,ip];exact .inl (.inr (cR h))
theorem Bu {m:Mo}(h:¬(m.fs.map λf=>f.c.nm).Nodup):dh m=ti:=by
 unfold dh;rw[ip,ip];exact .inr (cR h)
theorem Bv {m:Mo}(d:∀s∈m.ss,xA s.fs s.fs.length)(e:(m.ss.map λs=>s.s.nm).Nodup)(g:(m.fs.map λf=>f.c.nm).Nodup):dh m=tj:=by
 unfold dh;rw[cm (not_not_intro e),cm (not_not_intro g),sT,sT,j8];intro s h;have:=d s h;unfold xA at this;rw[cL] at this;simp[this]
theorem xC (m:Mo)(w:World)(ua:m.inn w)(yi:m.ss.length<=90000)(yk:m.fs.length<=90000)(up:∀s∈m.ss,s.fs.length<=90000):
  zP 47 #[tv m.cells] w (tt (dh m)):=by
 obtain⟨R,hR⟩:=zE (dh m);rw[hR];have HR:=zH hR;obtain⟨N,hN⟩:=zE w.heap.size;obtain⟨W1,tS⟩:=zE (w.alloc (tA m.cells 25));have ur:=gy tS;have vh:W1.heap.size=N+1:=by rw[<-tS];simp[hN]
 have vm:W1.heap[N]?=tf (tA m.cells 25 (0,0)):=by rw[<-tS,<-hN];exact alloc_at _ _
 have J:cg (∀W,aE W1.heap.size W1 W->W.cell? ⟨N,0,th⟩=tf (tn m.sA m.ss.length m.sC)/\W.cell? ⟨N,1,th⟩=tf (tn m.fA m.fs.length m.fC)/\m.inn W/\aE w.heap.size w W):=λW d=>by
  have K:=(d.block N (by omega)).trans vm;have h3:=ur.trans (d.mono ur.size);exact⟨by rw[bt _ _ _ _ _ _ K];rfl,by rw[bt _ _ _ _ _ _ K];rfl,ua.below h3,h3⟩
 have wk:=zH λW d nm=>ig m nm W ua.ns (J.out W d).2.2.1.srow;have wl:cg (∀W,aE W1.heap.size W1 W->∀nm,zP 50 #[tv #[tn m.sA m.ss.length m.sC,tn m.fA m.fs.length m.fC],tm nm] W (Z U (m.fnIx nm))):=λW d nm=>mG m nm W ua.nf (J.out W d).2.2.1.frow;have ws:=zH up;have uv:=tS;simp only[Mo.cells] at uv;have xf:=zH uv;have yp:=zH vh;simp only[Mo.cells];clear ua up tS uv ur vm hR vh;obtain⟨c0,c1,_,_⟩:=J.out W1 (aq _ _);go_enter func47,ntmps47
 go_upto_region 1 with(fail)
 rw[xf.out]
 go_wp2_with fail
 go_loopw [3] (λk wr=>∃j:bj,j<=m.ss.length/\k= Z U (j:aw)/\(∀(q:bj)(s:St),q<j->m.ss[q]?=tf s->m.stIx s.s.nm=(q:aw)/\xA s.fs s.fs.length)/\aE W1.heap.size W1 wr) (λk _=>m.ss.length-(dp k).toNat)
 case atStart=>exact⟨0,cM _,rfl,λq s hq=>fz hq (nB _),aq _ _⟩
 case round=>
  rename World=>A;clear c0 c1;obtain⟨j,hj,rfl,u,hb⟩:=hrel;obtain⟨c0,c1,tE,tG⟩:=J.out A hb;have HZ:=zH u;have HB:=zH hb;have yq:=zH tG
  by_cases ux:j<m.ss.length
  ·obtain⟨s,v⟩:∃y,m.ss[j]?=tf y:=⟨_,ap ux⟩
   have tU:=ci v;obtain⟨g,E,hA,ub,K⟩:=tE.srow (by intro e;rw[e] at ux;simp at ux);have o:cg (∀W,aE A.heap.size A W->W.cell? ⟨N,0,th⟩=tf (tn (tf ⟨g,E,th⟩) m.ss.length m.sC)/\W.cell? ⟨N,1,th⟩=tf (tn m.fA m.fs.length m.fC)/\W.cell? ⟨g,E+j*4,th⟩=tf (tm s.s.nm)/\W.cell? ⟨g,E+j*4+1,th⟩=tf (tn s.s.fA s.fs.length s.s.fC)/\aE W1.heap.size W1 W/\s.inn W):=λW d=>by
    have h:=HB.out.trans (d.mono HB.out.size);obtain⟨k0,k1,k2,_⟩:=J.out W h;refine⟨by rw[<-hA];exact k0,k1,by rw[d.cell (p:=⟨g,_,th⟩) ub];exact K j s v 0 _ rfl, ?_,h,k2.sin s tU⟩;rw[d.cell (p:=⟨g,_,th⟩) ub,<-(tE.sin s tU).nf];exact K j s v 1 _ rfl
   have yr:(j:aw)<(m.ss.length:aw):=by omega
   have HS:=zH v;have xj:=zH tU;have up:=ws.out s tU;obtain⟨x,G⟩:=zE (m.stIx s.s.nm);have HX:=zH G;have HC:cg (∀p:BW A,zP 84 #[tv #[tn (tf ⟨g,E,th⟩) m.ss.length m.sC,tn m.fA m.fs.length m.fC],tm s.s.nm] p.w (Z U x)):=λp=>by
    rw[<-hA,<-G];exact wk.out p.w (o.out p.w p.h).2.2.2.2.1 s.s.nm
   have m0:∀p:BW A,p.w.cell? ⟨N,0,th⟩=tf (tn (tf ⟨g,E,th⟩) m.ss.length m.sC):=λp=>(o.out p.w p.h).1;have m1:∀p:BW A,p.w.cell? ⟨N,1,th⟩=tf (tn m.fA m.fs.length m.fC):=λp=>(o.out p.w p.h).2.1;have m2:∀p:BW A,p.w.cell? ⟨g,E+j*4,th⟩=tf (tm s.s.nm):=λp=>(o.out p.w p.h).2.2.1;clear u hb tG v tU tE G
   go_wp2_with fail
   clear c0 c1 K;refine zQ ?_
   repeat (go_big_quiet_step (first|(go_at_call 84;exact bg (HC.out _))))
   refine dr ?_;rintro _ ⟨p,rfl⟩
   by_cases tM:x=(j:aw)
   ·subst tM
    obtain⟨W2,vc⟩:=p
    show Exit.then _ _ _ _ W2
    obtain⟨c0,c1,c2,c3,vp,xl⟩:=o.out W2 vc;have vd:=zH vp;have xo:=zH vc;clear m0 m1 m2 vp vc xl
    go_wp2_with fail
    go_loopw [5] (λk xp=>∃i:bj,i<=s.fs.length/\k= Z U (i:aw)/\xA s.fs i/\aE A.heap.size A xp) (λk _=>s.fs.length-(dp k).toNat)
    case atStart=>exact⟨0,cM _,rfl,by unfold xA;simp,xo.out⟩
    case round=>
     obtain⟨i,hi,rfl,vq,uc⟩:=hrel;have vr:=zH vq;have vt:=zH uc;clear c0 c1 c2 c3 vq
     by_cases tD:i<s.fs.length
     ·obtain⟨y,hy⟩:∃y,s.fs[i]?=tf y:=⟨_,ap tD⟩
      obtain⟨f1,fo,ud,_,_⟩:=(o.out wr uc).2.2.2.2.2.row (by intro e;rw[e] at tD;simp at tD);have vu:cg (∀W,aE A.heap.size A W->∀(q:bj)(z:Fd),s.fs[q]?=tf z->W.cell? ⟨f1,fo+q*5,th⟩=tf (tm z.nm)):=λW d q z u=>by
       obtain⟨f2,yv,ue,_,q2⟩:=(o.out W d).2.2.2.2.2.row (by intro e;rw[e] at tD;simp at tD);rw[ud] at ue;simp only[dj,eV,and_true] at ue;rw[ue.1,ue.2];exact q2 q z u 0 _ rfl
      have xr:(i:aw)<(s.fs.length:aw):=by omega
      have HY:=zH hy;have yy:=zH ud;rw[ud];clear hy uc ud
      go_wp2_with fail
      go_loopw [6] (λk xt=>∃q:bj,q<=i/\k= Z U (q:aw)/\(∀z∈s.fs.take q,(z.nm==y.nm)=tj)/\aE A.heap.size A xt) (λk _=>i-(dp k).toNat)
      case atStart=>exact⟨0,cM _,rfl,by simp,vt.out⟩
      case round=>
       obtain⟨q,hq,rfl,u,tP⟩:=hrel;have vx:=zH u;have vy:=zH tP
       by_cases xF:q<i
       ·obtain⟨x,G⟩:∃y,s.fs[q]?=tf y:=⟨_,ap (by omega)⟩
        have d0:wr.cell? ⟨f1,fo+q*5,th⟩=tf (tm x.nm):=vu.out wr tP q x G;have d1:wr.cell? ⟨f1,fo+i*5,th⟩=tf (tm y.nm):=vu.out wr tP i y HY.out;have yW:(q:aw)<(i:aw):=by omega
        have zc:(q:aw)<(s.fs.length:aw):=by omega
        have we:=zH G
        by_cases hd:x.nm=y.nm
        ·have tR:cg (R=ti):=by unfold cg;rw[<-HR.out];exact zt xj.out we.out HY.out xF hd
         have tW:cg (aE w.heap.size w wr):=(J.out wr (HB.out.trans (tP.mono HB.out.size))).2.2.2;rw[hd] at d0;clear u G tP;go_wp2
         go_quiet (fail)
         go_wp2;go_ret;rw[tR.out];exact⟨rfl,hU tW.out _⟩
        ·have wg:¬(x.nm.toList=y.nm.toList):=λe=>hd (eq_of_beq (by rw[fx,e];simp))
         have zd:(x.nm.toList==y.nm.toList)=tj:=by simpa using wg
         clear wg;have xT:cg ((x.nm==y.nm)=tj):=by unfold cg;simp[hd]
         clear u G tP hd;go_wp2
         go_quiet (fail)
         go_wp2;go_roundw
         case rel=>exact⟨q+1,by omega,by go_num,dE (p:=λz:Fd=>z.nm==y.nm) vx.out we.out xT.out,hU vy.out _⟩
         case measure=>simp[dp];omega
       ·have ya:q=i:=by omega
        subst ya;clear u tP;go_wp2;go_roundw
        case rel=>exact⟨q+1,by omega,by go_num,vr.out.next HY.out vx.out,vy.out⟩
        case measure=>simp[dp];omega
     ·have vf:i=s.fs.length:=by omega
      subst vf;clear uc;go_wp2;go_roundw
      case rel=>exact⟨j+1,by omega,by go_num,λq t hq ht=>by
       rcases Nat.lt_or_ge q j with h|h
       ·exact HZ.out q t h ht
       ·have e:q=j:=by omega
        rw[e,HS.out] at ht;rw[<-cy ht,e];exact⟨HX.out,vr.out⟩,HB.out.trans (vt.out.mono HB.out.size)⟩
      case measure=>simp[dp];omega
   ·have tR:cg (R=ti):=by unfold cg;rw[<-HR.out];exact xB (vL (nm:=λt:St=>t.s.nm) HS.out (λe=>tM (by rw[<-HX.out];exact e)))
    have yb:(x != (j:aw))=ti:=by rw[oe];exact tM
    have tW:cg (aE w.heap.size w p.w):=(J.out p.w (o.out p.w p.h).2.2.2.2.1).2.2.2;clear m0 m1 m2;go_wp2;go_ret;rw[tR.out];exact⟨rfl,tW.out⟩
  ·have yd:j=m.ss.length:=by omega
   subst yd;clear u hb tG tE
   go_wp2_with fail
   clear c0 c1
   go_loopw [7] (λk wr=>∃i:bj,i<=m.fs.length/\k= Z U (i:aw)/\(∀(q:bj)(f:Fn),q<i->m.fs[q]?=tf f->m.fnIx f.c.nm=(q:aw))/\aE W1.heap.size W1 wr) (λk _=>m.fs.length-(dp k).toNat)
   case atStart=>exact⟨0,cM _,rfl,λq s hq=>fz hq (nB _),HB.out⟩
   case round=>
    obtain⟨i,hi,rfl,u,hb⟩:=hrel;obtain⟨c0,c1,tE,tG⟩:=J.out wr hb;have wj:=zH u;have vd:=zH hb;have ye:=zH tG
    by_cases tD:i<m.fs.length
    ·obtain⟨f,v⟩:∃y,m.fs[i]?=tf y:=⟨_,ap tD⟩
     obtain⟨g,E,hA,ub,K⟩:=tE.frow (by intro e;rw[e] at tD;simp at tD);have o:cg (∀W,aE wr.heap.size wr W->W.cell? ⟨N,0,th⟩=tf (tn m.sA m.ss.length m.sC)/\W.cell? ⟨N,1,th⟩=tf (tn (tf ⟨g,E,th⟩) m.fs.length m.fC)/\W.cell? ⟨g,E+i*8,th⟩=tf (tm f.c.nm)/\aE W1.heap.size W1 W):=λW d=>by
      have h:=vd.out.trans (d.mono vd.out.size);obtain⟨k0,k1,_,_⟩:=J.out W h;exact⟨k0,by rw[<-hA];exact k1,by rw[d.cell (p:=⟨g,_,th⟩) ub];exact K i f v 0 _ rfl,h⟩
     have xr:(i:aw)<(m.fs.length:aw):=by omega
     have HS:=zH v;obtain⟨x,G⟩:=zE (m.fnIx f.c.nm);have HX:=zH G;have HC:cg (∀p:BW wr,zP 50 #[tv #[tn m.sA m.ss.length m.sC,tn (tf ⟨g,E,th⟩) m.fs.length m.fC],tm f.c.nm] p.w (Z U x)):=λp=>by
      rw[<-hA,<-G];exact wl.out p.w (o.out p.w p.h).2.2.2 f.c.nm
     have m0:∀p:BW wr,p.w.cell? ⟨N,0,th⟩=tf (tn m.sA m.ss.length m.sC):=λp=>(o.out p.w p.h).1;have m1:∀p:BW wr,p.w.cell? ⟨N,1,th⟩=tf (tn (tf ⟨g,E,th⟩) m.fs.length m.fC):=λp=>(o.out p.w p.h).2.1;have m2:∀p:BW wr,p.w.cell? ⟨g,E+i*8,th⟩=tf (tm f.c.nm):=λp=>(o.out p.w p.h).2.2.1;clear u hb tG v tE G
     go_wp2_with fail
     clear c0 c1 K;refine zQ ?_
     repeat (go_big_quiet_step (first|(go_at_call 50;exact bg (HC.out _))))
     refine dr ?_;rintro _ ⟨p,rfl⟩
     by_cases tM:x=(i:aw)
     ·subst tM
      clear m0 m1 m2;go_wp2;go_roundw
      case rel=>exact⟨i+1,by omega,by go_num,λq t hq ht=>by
       rcases Nat.lt_or_ge q i with h|h
       ·exact wj.out q t h ht
       ·have e:q=i:=by omega
        rw[e,HS.out] at ht;rw[<-cy ht,e];exact HX.out,(o.out p.w p.h).2.2.2⟩
      case measure=>simp[dp];omega
     ·have tR:cg (R=ti):=by unfold cg;rw[<-HR.out];exact Bu (vL (nm:=λt:Fn=>t.c.nm) HS.out (λe=>tM (by rw[<-HX.out];exact e)))
      have yb:(x != (i:aw))=ti:=by rw[oe];exact tM
      have tW:cg (aE w.heap.size w p.w):=(J.out p.w (o.out p.w p.h).2.2.2).2.2.2;clear m0 m1 m2;go_wp2;go_ret;rw[tR.out];exact⟨rfl,tW.out⟩
    ·have vf:i=m.fs.length:=by omega
     subst vf;have tR:cg (R=tj):=by
      unfold cg;rw[<-HR.out];refine Bv (λs v=> ?_) (zq (nm:=λt:St=>t.s.nm) λq s v=> ?_) (zq (nm:=λt:Fn=>t.c.nm) λq f hf=> ?_)
      ·obtain⟨q,hq⟩:=sr.1 v
       exact(HZ.out q s (bo.1 hq).1 hq).2
      ·exact(HZ.out q s (bo.1 v).1 v).1
      ·exact wj.out q f (bo.1 hf).1 hf
     clear u hb tG tE;go_wp2;go_ret;rw[tR.out];exact⟨rfl,ye.out⟩
end Go.Proofs.YtjomgckjhcfbgaaGreat
