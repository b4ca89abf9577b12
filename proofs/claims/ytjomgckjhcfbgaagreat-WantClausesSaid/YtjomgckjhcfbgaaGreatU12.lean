/- Walks. -/
import Derived.Test.YtjomgckjhcfbgaaGreatU10
set_option maxRecDepth 100000
set_option maxHeartbeats 64000000
set_option linter.all false
namespace Go.Proofs.YtjomgckjhcfbgaaGreat
open Go.RowKit
open _root_.List renaming getElem?_eq_getElem→ap,getElem?_eq_some_iff→bl,mem_of_getElem?→cd,take_length→cR,mem_singleton→cU,map_append→dp,mem_map→gi,take_add_one→ju,any_eq_true→kh,any_eq_false→lx,map_cons→mA,pairwise_iff_getElem→oT,map_nil→pm,nodup_append→pn,pairwise_map→rS,mem_iff_getElem?→te
open Go.RowKit.Below renaming refl→aq
open _root_ renaming Int→aw,Nat→bh,List→bj,ByteArray→bm,decide_eq_false→cv,if_pos→cI,beq_eq_false_iff_ne→cT,decide_eq_true→cV,absurd→fL,and_true→pf,bne_iff_ne→pp
open Go.RowKit renaming Below→aE,Hid→cj,intOf→de
open Go renaming cell_of_row→bw,wpQuiet_nil→dj,beq_toListBytes→fY,below_drewN→hU
open _root_.Option.some renaming inj→cE,injEq→dd
open _root_.Nat renaming zero_le→cN,not_lt_zero→oR
open Go.Addr.mk renaming injEq→eR
open _root_.Bool renaming or_eq_true→js,or_false→tv,true→tP,false→tR
open _root_.Option renaming some→tG,none→tM
open Go.Value renaming string→tS,slice→tU,bool→ua,agg→ub,int→Z
open Go.Obj renaming cells→uc
open Go.IntKind renaming i64→U
open Tryz
theorem Az {α:Type}{nm:α->bm}{xs:bj α}(h:∀(q:bh)(x:α),xs[q]?=tG x->gW (λy=>nm y==nm x) xs=(q:aw)):(xs.map nm).Nodup:=by
 rw[List.Nodup,rS,oT];intro i j hi f o e;have d:=h j xs[j] (ap f);unfold gW at d;have t:xs.findIdx (λy=>nm y==nm xs[j])<=i:=by
  apply Nat.le_of_not_lt;intro g;have:=List.not_of_lt_findIdx g;simp[e] at this
 rw[cI (by omega)] at d;omega
theorem wL {α:Type}{nm:α->bm}{xs:bj α}{q:bh}{x:α}(d:xs[q]?=tG x)(h:gW (λy=>nm y==nm x) xs≠(q:aw)):¬(xs.map nm).Nodup:=by
 intro f;rw[List.Nodup,rS,oT] at f;obtain⟨g,e⟩:=bl.1 d;refine h (jd (j:=q) (y:=x) (λz o=> ?_) d (by simp));obtain⟨i,hi,t⟩:=List.mem_take_iff_getElem.1 o;have:=f i q (by omega) g (by omega);rw[<-t,cT,<-e];exact this
def yw (l:bj Fd)(k:bh):Prop:=((l.take k).map Fd.nm).Nodup
theorem yw.next {l:bj Fd}{k:bh}{x:Fd}(h:yw l k)(d:l[k]?=tG x)(g:∀z∈l.take k,(z.nm==x.nm)=tR):yw l (k+1):=by
 unfold yw;obtain⟨q,e⟩:=bl.1 d;rw[ju,d,dp,pn];refine⟨h,by simp,λa j b f=> ?_⟩;obtain⟨z,o,rfl⟩:=gi.1 j;simp only[Option.toList_some,mA,pm,cU] at f;subst f;have:=g z o
 rwa [cT] at this
theorem AA {m:Mo}{s:St}{j k:bh}{x y:Fd}(f:s∈m.ss)(g:s.fs[j]?=tG x)(h:s.fs[k]?=tG y)(o:j<k)(e:x.nm=y.nm):dJ m=tP:=by
 have d:¬(s.fs.map Fd.nm).Nodup:=by
  intro d;rw[List.Nodup,rS,oT] at d;obtain⟨q,t⟩:=bl.1 g;obtain⟨u,v⟩:=bl.1 h;exact d j k q u o (by rw[t,v];exact e)
 unfold dJ;rw[js,js,kh];exact .inl (.inl ⟨s,f,cV d⟩)
theorem yx {m:Mo}(h:¬(m.ss.map λs=>s.s.nm).Nodup):dJ m=tP:=by
 unfold dJ;rw[js,js];exact .inl (.inr (cV h))
theorem CO {m:Mo}(h:¬(m.fs.map λf=>f.c.nm).Nodup):dJ m=tP:=by
 unfold dJ;rw[js,js];exact .inr (cV h)
theorem CP {m:Mo}(d:∀s∈m.ss,yw s.fs s.fs.length)(e:(m.ss.map λs=>s.s.nm).Nodup)(g:(m.fs.map λf=>f.c.nm).Nodup):dJ m=tR:=by
 unfold dJ;rw[cv (not_not_intro e),cv (not_not_intro g),tv,tv,lx];intro s h;have:=d s h;unfold yw at this;rw[cR] at this;simp[this]
theorem yz (m:Mo)(w:World)(vm:m.inn w)(AD:m.ss.length<=90000)(AE:m.fs.length<=90000)(vu:∀s∈m.ss,s.fs.length<=90000):
  zP 47 #[ub m.cells] w (ua (dJ m)):=by
 obtain⟨R,hR⟩:=zE (dJ m);rw[hR];have HR:=zH hR;obtain⟨N,hN⟩:=zE w.heap.size;obtain⟨W1,vd⟩:=zE (w.alloc (uc m.cells 25));have vx:=il vd;have wl:W1.heap.size=N+1:=by rw[<-vd];simp[hN]
 have ws:W1.heap[N]?=tG (uc m.cells 25 (0,0)):=by rw[<-vd,<-hN];exact alloc_at _ _
 have J:cj (∀W,aE W1.heap.size W1 W->W.cell? ⟨N,0,tM⟩=tG (tU m.sA m.ss.length m.sC)/\W.cell? ⟨N,1,tM⟩=tG (tU m.fA m.fs.length m.fC)/\m.inn W/\aE w.heap.size w W):=λW d=>by
  have K:=(d.block N (by omega)).trans ws;have h3:=vx.trans (d.mono vx.size);exact⟨by rw[bw _ _ _ _ _ _ K];rfl,by rw[bw _ _ _ _ _ _ K];rfl,vm.below h3,h3⟩
 have yi:=zH λW d nm=>iQ m nm W vm.ns (J.out W d).2.2.1.srow;have yk:cj (∀W,aE W1.heap.size W1 W->∀nm,zP 50 #[ub #[tU m.sA m.ss.length m.sC,tU m.fA m.fs.length m.fC],tS nm] W (Z U (m.fnIx nm))):=λW d nm=>nD m nm W vm.nf (J.out W d).2.2.1.frow;have yp:=zH vu;have vy:=vd;simp only[Mo.cells] at vy;have yq:=zH vy;have AF:=zH wl;simp only[Mo.cells];clear vm vu vd vy vx ws hR wl;obtain⟨c0,c1,_,_⟩:=J.out W1 (aq _ _);go_enter func47,ntmps47
 go_upto_region 1 with(fail)
 rw[yq.out]
 go_wp2_with fail
 go_loopw [3] (λk wr=>∃j:bh,j<=m.ss.length/\k= Z U (j:aw)/\(∀(q:bh)(s:St),q<j->m.ss[q]?=tG s->m.stIx s.s.nm=(q:aw)/\yw s.fs s.fs.length)/\aE W1.heap.size W1 wr) (λk _=>m.ss.length-(de k).toNat)
 case atStart=>exact⟨0,cN _,rfl,λq s hq=>fL hq (oR _),aq _ _⟩
 case round=>
  rename World=>A;clear c0 c1;obtain⟨j,hj,rfl,u,hb⟩:=hrel;obtain⟨c0,c1,up,ur⟩:=J.out A hb;have HZ:=zH u;have HB:=zH hb;have AH:=zH ur
  by_cases we:j<m.ss.length
  ·obtain⟨s,v⟩:∃y,m.ss[j]?=tG y:=⟨_,ap we⟩
   have vf:=cd v;obtain⟨g,E,hA,vp,K⟩:=up.srow (by intro e;rw[e] at we;simp at we);have o:cj (∀W,aE A.heap.size A W->W.cell? ⟨N,0,tM⟩=tG (tU (tG ⟨g,E,tM⟩) m.ss.length m.sC)/\W.cell? ⟨N,1,tM⟩=tG (tU m.fA m.fs.length m.fC)/\W.cell? ⟨g,E+j*4,tM⟩=tG (tS s.s.nm)/\W.cell? ⟨g,E+j*4+1,tM⟩=tG (tU s.s.fA s.fs.length s.s.fC)/\aE W1.heap.size W1 W/\s.inn W):=λW d=>by
    have h:=HB.out.trans (d.mono HB.out.size);obtain⟨k0,k1,k2,_⟩:=J.out W h;refine⟨by rw[<-hA];exact k0,k1,by rw[d.cell (p:=⟨g,_,tM⟩) vp];exact K j s v 0 _ rfl, ?_,h,k2.sin s vf⟩;rw[d.cell (p:=⟨g,_,tM⟩) vp,<-(up.sin s vf).nf];exact K j s v 1 _ rfl
   have AI:(j:aw)<(m.ss.length:aw):=by omega
   have HS:=zH v;have yr:=zH vf;have vu:=yp.out s vf;obtain⟨x,G⟩:=zE (m.stIx s.s.nm);have HX:=zH G;have HC:cj (∀p:BW A,zP 84 #[ub #[tU (tG ⟨g,E,tM⟩) m.ss.length m.sC,tU m.fA m.fs.length m.fC],tS s.s.nm] p.w (Z U x)):=λp=>by
    rw[<-hA,<-G];exact yi.out p.w (o.out p.w p.h).2.2.2.2.1 s.s.nm
   have m0:∀p:BW A,p.w.cell? ⟨N,0,tM⟩=tG (tU (tG ⟨g,E,tM⟩) m.ss.length m.sC):=λp=>(o.out p.w p.h).1;have m1:∀p:BW A,p.w.cell? ⟨N,1,tM⟩=tG (tU m.fA m.fs.length m.fC):=λp=>(o.out p.w p.h).2.1;have m2:∀p:BW A,p.w.cell? ⟨g,E+j*4,tM⟩=tG (tS s.s.nm):=λp=>(o.out p.w p.h).2.2.1;clear u hb ur v vf up G
   go_wp2_with fail
   clear c0 c1 K;refine zQ ?_
   repeat (go_big_quiet_step (first|(go_at_call 84;exact bE (HC.out _))))
   refine dj ?_;rintro _ ⟨p,rfl⟩
   by_cases uv:x=(j:aw)
   ·subst uv
    obtain⟨W2,wg⟩:=p
    show Exit.then _ _ _ _ W2
    obtain⟨c0,c1,c2,c3,xf,yv⟩:=o.out W2 wg;have wj:=zH xf;have yy:=zH wg;clear m0 m1 m2 xf wg yv
    go_wp2_with fail
    go_loopw [5] (λk yW=>∃i:bh,i<=s.fs.length/\k= Z U (i:aw)/\yw s.fs i/\aE A.heap.size A yW) (λk _=>s.fs.length-(de k).toNat)
    case atStart=>exact⟨0,cN _,rfl,by unfold yw;simp,yy.out⟩
    case round=>
     obtain⟨i,hi,rfl,xj,vq⟩:=hrel;have xo:=zH xj;have xp:=zH vq;clear c0 c1 c2 c3 xj
     by_cases ue:i<s.fs.length
     ·obtain⟨y,hy⟩:∃y,s.fs[i]?=tG y:=⟨_,ap ue⟩
      obtain⟨f1,fo,vr,_,_⟩:=(o.out wr vq).2.2.2.2.2.row (by intro e;rw[e] at ue;simp at ue);have xt:cj (∀W,aE A.heap.size A W->∀(q:bh)(z:Fd),s.fs[q]?=tG z->W.cell? ⟨f1,fo+q*5,tM⟩=tG (tS z.nm)):=λW d q z u=>by
       obtain⟨f2,AK,vt,_,q2⟩:=(o.out W d).2.2.2.2.2.row (by intro e;rw[e] at ue;simp at ue);rw[vr] at vt;simp only[dd,eR,pf] at vt;rw[vt.1,vt.2];exact q2 q z u 0 _ rfl
      have zc:(i:aw)<(s.fs.length:aw):=by omega
      have HY:=zH hy;have AM:=zH vr;rw[vr];clear hy vq vr
      go_wp2_with fail
      go_loopw [6] (λk zj=>∃q:bh,q<=i/\k= Z U (q:aw)/\(∀z∈s.fs.take q,(z.nm==y.nm)=tR)/\aE A.heap.size A zj) (λk _=>i-(de k).toNat)
      case atStart=>exact⟨0,cN _,rfl,by simp,xp.out⟩
      case round=>
       obtain⟨q,hq,rfl,u,ux⟩:=hrel;have xF:=zH u;have xT:=zH ux
       by_cases zp:q<i
       ·obtain⟨x,G⟩:∃y,s.fs[q]?=tG y:=⟨_,ap (by omega)⟩
        have d0:wr.cell? ⟨f1,fo+q*5,tM⟩=tG (tS x.nm):=xt.out wr ux q x G;have d1:wr.cell? ⟨f1,fo+i*5,tM⟩=tG (tS y.nm):=xt.out wr ux i y HY.out;have AN:(q:aw)<(i:aw):=by omega
        have AS:(q:aw)<(s.fs.length:aw):=by omega
        have yb:=zH G
        by_cases hd:x.nm=y.nm
        ·have vc:cj (R=tP):=by unfold cj;rw[<-HR.out];exact AA yr.out yb.out HY.out zp hd
         have vh:cj (aE w.heap.size w wr):=(J.out wr (HB.out.trans (ux.mono HB.out.size))).2.2.2;rw[hd] at d0;clear u G ux;go_wp2
         go_quiet (fail)
         go_wp2;go_ret;rw[vc.out];exact⟨rfl,hU vh.out _⟩
        ·have yd:¬(x.nm.toList=y.nm.toList):=λe=>hd (eq_of_beq (by rw[fY,e];simp))
         have AT:(x.nm.toList==y.nm.toList)=tR:=by simpa using yd
         clear yd;have zs:cj ((x.nm==y.nm)=tR):=by unfold cj;simp[hd]
         clear u G ux hd;go_wp2
         go_quiet (fail)
         go_wp2;go_roundw
         case rel=>exact⟨q+1,by omega,by go_num,dR (p:=λz:Fd=>z.nm==y.nm) xF.out yb.out zs.out,hU xT.out _⟩
         case measure=>simp[de];omega
       ·have zv:q=i:=by omega
        subst zv;clear u ux;go_wp2;go_roundw
        case rel=>exact⟨q+1,by omega,by go_num,xo.out.next HY.out xF.out,xT.out⟩
        case measure=>simp[de];omega
     ·have wk:i=s.fs.length:=by omega
      subst wk;clear vq;go_wp2;go_roundw
      case rel=>exact⟨j+1,by omega,by go_num,λq t hq ht=>by
       rcases Nat.lt_or_ge q j with h|h
       ·exact HZ.out q t h ht
       ·have e:q=j:=by omega
        rw[e,HS.out] at ht;rw[<-cE ht,e];exact⟨HX.out,xo.out⟩,HB.out.trans (xp.out.mono HB.out.size)⟩
      case measure=>simp[de];omega
   ·have vc:cj (R=tP):=by unfold cj;rw[<-HR.out];exact yx (wL (nm:=λt:St=>t.s.nm) HS.out (λe=>uv (by rw[<-HX.out];exact e)))
    have An:(x != (j:aw))=tP:=by rw[pp];exact uv
    have vh:cj (aE w.heap.size w p.w):=(J.out p.w (o.out p.w p.h).2.2.2.2.1).2.2.2;clear m0 m1 m2;go_wp2;go_ret;rw[vc.out];exact⟨rfl,vh.out⟩
  ·have At:j=m.ss.length:=by omega
   subst At;clear u hb ur up
   go_wp2_with fail
   clear c0 c1
   go_loopw [7] (λk wr=>∃i:bh,i<=m.fs.length/\k= Z U (i:aw)/\(∀(q:bh)(f:Fn),q<i->m.fs[q]?=tG f->m.fnIx f.c.nm=(q:aw))/\aE W1.heap.size W1 wr) (λk _=>m.fs.length-(de k).toNat)
   case atStart=>exact⟨0,cN _,rfl,λq s hq=>fL hq (oR _),HB.out⟩
   case round=>
    obtain⟨i,hi,rfl,u,hb⟩:=hrel;obtain⟨c0,c1,up,ur⟩:=J.out wr hb;have ye:=zH u;have wj:=zH hb;have Ax:=zH ur
    by_cases ue:i<m.fs.length
    ·obtain⟨f,v⟩:∃y,m.fs[i]?=tG y:=⟨_,ap ue⟩
     obtain⟨g,E,hA,vp,K⟩:=up.frow (by intro e;rw[e] at ue;simp at ue);have o:cj (∀W,aE wr.heap.size wr W->W.cell? ⟨N,0,tM⟩=tG (tU m.sA m.ss.length m.sC)/\W.cell? ⟨N,1,tM⟩=tG (tU (tG ⟨g,E,tM⟩) m.fs.length m.fC)/\W.cell? ⟨g,E+i*8,tM⟩=tG (tS f.c.nm)/\aE W1.heap.size W1 W):=λW d=>by
      have h:=wj.out.trans (d.mono wj.out.size);obtain⟨k0,k1,_,_⟩:=J.out W h;exact⟨k0,by rw[<-hA];exact k1,by rw[d.cell (p:=⟨g,_,tM⟩) vp];exact K i f v 0 _ rfl,h⟩
     have zc:(i:aw)<(m.fs.length:aw):=by omega
     have HS:=zH v;obtain⟨x,G⟩:=zE (m.fnIx f.c.nm);have HX:=zH G;have HC:cj (∀p:BW wr,zP 50 #[ub #[tU m.sA m.ss.length m.sC,tU (tG ⟨g,E,tM⟩) m.fs.length m.fC],tS f.c.nm] p.w (Z U x)):=λp=>by
      rw[<-hA,<-G];exact yk.out p.w (o.out p.w p.h).2.2.2 f.c.nm
     have m0:∀p:BW wr,p.w.cell? ⟨N,0,tM⟩=tG (tU m.sA m.ss.length m.sC):=λp=>(o.out p.w p.h).1;have m1:∀p:BW wr,p.w.cell? ⟨N,1,tM⟩=tG (tU (tG ⟨g,E,tM⟩) m.fs.length m.fC):=λp=>(o.out p.w p.h).2.1;have m2:∀p:BW wr,p.w.cell? ⟨g,E+i*8,tM⟩=tG (tS f.c.nm):=λp=>(o.out p.w p.h).2.2.1;clear u hb ur v up G
     go_wp2_with fail
     clear c0 c1 K;refine zQ ?_
     repeat (go_big_quiet_step (first|(go_at_call 50;exact bE (HC.out _))))
     refine dj ?_;rintro _ ⟨p,rfl⟩
     by_cases uv:x=(i:aw)
     ·subst uv
      clear m0 m1 m2;go_wp2;go_roundw
      case rel=>exact⟨i+1,by omega,by go_num,λq t hq ht=>by
       rcases Nat.lt_or_ge q i with h|h
       ·exact ye.out q t h ht
       ·have e:q=i:=by omega
        rw[e,HS.out] at ht;rw[<-cE ht,e];exact HX.out,(o.out p.w p.h).2.2.2⟩
      case measure=>simp[de];omega
     ·have vc:cj (R=tP):=by unfold cj;rw[<-HR.out];exact CO (wL (nm:=λt:Fn=>t.c.nm) HS.out (λe=>uv (by rw[<-HX.out];exact e)))
      have An:(x != (i:aw))=tP:=by rw[pp];exact uv
      have vh:cj (aE w.heap.size w p.w):=(J.out p.w (o.out p.w p.h).2.2.2).2.2.2;clear m0 m1 m2;go_wp2;go_ret;rw[vc.out];exact⟨rfl,vh.out⟩
    ·have wk:i=m.fs.length:=by omega
     subst wk;have vc:cj (R=tR):=by
      unfold cj;rw[<-HR.out];refine CP (λs v=> ?_) (Az (nm:=λt:St=>t.s.nm) λq s v=> ?_) (Az (nm:=λt:Fn=>t.c.nm) λq f hf=> ?_)
      ·obtain⟨q,hq⟩:=te.1 v
       exact(HZ.out q s (bl.1 hq).1 hq).2
      ·exact(HZ.out q s (bl.1 v).1 v).1
      ·exact ye.out q f (bl.1 hf).1 hf
     clear u hb ur up;go_wp2;go_ret;rw[vc.out];exact⟨rfl,Ax.out⟩
end Go.Proofs.YtjomgckjhcfbgaaGreat
