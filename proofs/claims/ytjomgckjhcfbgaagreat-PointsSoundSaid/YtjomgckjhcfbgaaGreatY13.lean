/- Walks. -/
import Derived.Test.YtjomgckjhcfbgaaGreatY10
import Derived.Test.YtjomgckjhcfbgaaGreatY12
set_option maxRecDepth 100000
set_option maxHeartbeats 64000000
set_option linter.all false
namespace Go.Proofs.YtjomgckjhcfbgaaGreat
open Go.RowKit
open Go.Proofs.Tryz renaming prog→ac,underlying42→cJ,underlying38→cQ,underlying25→fk
open _root_.List renaming getElem?_eq_getElem→am,getElem?_eq_some_iff→ap,setIfInBounds_toArray→aw,set_cons_zero→bt,set_cons_succ→bw,mem_of_getElem?→cf,mem_singleton→cH,mem_append→cT,take_length→de,mem_map→dy,mem_flatMap→em,mem_cons→fy,map_append→fL,pairwise_iff_getElem→gi,all_eq_true→js,any_eq_true→kq,nodup_append→lj,any_eq_false→lz,map_cons→lP,take_add_one→mT,all_eq_false→m9,pairwise_map→nh,mem_cons_of_mem→pn
open Go.RowKit.Below renaming refl→aq
open _root_ renaming ByteArray→aE,List→bm,Int→bp,Nat→bx,if_neg→cE,decide_eq_false→cL,if_pos→cR,Array→da,beq_eq_false_iff_ne→dp,decide_eq_true→ef,absurd→fW,and_true→pc,bne_iff_ne→qq
open Go.RowKit renaming Below→bh,Hid→cm
open Go renaming cell_of_row→cc,Value→cd,wpList_load_row→ci,run_storeCells_new→ct,storeCells→dr,wpQuiet_nil→eh,beq_toListBytes→fY,below_drewN→lB
open _root_.Option.some renaming inj→cD,injEq→dt
open _root_.Nat renaming zero_le→cN,lt_or_ge→j8,not_lt_zero→kh
open _root_.Int renaming toNat_natCast→cP
open Go.Addr renaming add_lit→dc
open Go.Act renaming put→dk
open Go.Addr.mk renaming injEq→eW
open _root_.Bool renaming or_eq_true→hU,or_false→lO,not_false→qT,not_eq_true'→se,not_true→sy,true→tE,false→tG
open _root_.Option renaming some→tB,none→tD
open Go.Value renaming string→tM,slice→tP,bool→tU,agg→tW,int→Z
open Go.Obj renaming cells→ua
open Go.IntKind renaming i64→U
open Tryz
theorem Ab {α:Type}{nm:α->aE}{xs:bm α}(h:∀(q:bx)(x:α),xs[q]?=tB x->fT (λy=>nm y==nm x) xs=(q:bp)):(xs.map nm).Nodup:=by
 rw[List.Nodup,nh,gi];intro i j v f A e;have d:=h j xs[j] (am f);unfold fT at d;have D:xs.findIdx (λy=>nm y==nm xs[j])<=i:=by
  apply Nat.le_of_not_lt;intro u;have:=List.not_of_lt_findIdx u;simp[e] at this
 rw[cR (by omega)] at d;omega
theorem wI {α:Type}{nm:α->aE}{xs:bm α}{q:bx}{x:α}(d:xs[q]?=tB x)(h:fT (λy=>nm y==nm x) xs≠(q:bp)):¬(xs.map nm).Nodup:=by
 intro f;rw[List.Nodup,nh,gi] at f;obtain⟨u,e⟩:=ap.1 d;refine h (jJ (j:=q) (y:=x) (λz v=> ?_) d (by simp));obtain⟨i,D,A⟩:=List.mem_take_iff_getElem.1 v;have:=f i q (by omega) u (by omega);rw[<-A,dp,<-e];exact this
def yh (l:bm Fd)(k:bx):Prop:=((l.take k).map Fd.nm).Nodup
theorem yh.next {l:bm Fd}{k:bx}{x:Fd}(h:yh l k)(d:l[k]?=tB x)(q:∀z∈l.take k,(z.nm==x.nm)=tG):yh l (k+1):=by
 unfold yh;obtain⟨A,e⟩:=ap.1 d;rw[mT,d,fL,lj];refine⟨h,by simp,λa u b f=> ?_⟩;obtain⟨z,v,rfl⟩:=dy.1 u;simp only[Option.toList_some,lP,List.map_nil,cH] at f;subst f;have:=q z v
 rwa [dp] at this
theorem Ac {m:Mo}{s:St}{j k:bx}{x y:Fd}(f:s∈m.ss)(h:s.fs[j]?=tB x)(q:s.fs[k]?=tB y)(u:j<k)(e:x.nm=y.nm):dz m=tE:=by
 have d:¬(s.fs.map Fd.nm).Nodup:=by
  intro d;rw[List.Nodup,nh,gi] at d;obtain⟨v,A⟩:=ap.1 h;obtain⟨D,G⟩:=ap.1 q;exact d j k v D u (by rw[A,G];exact e)
 unfold dz;rw[hU,hU,kq];exact .inl (.inl ⟨s,f,ef d⟩)
theorem yj {m:Mo}(h:¬(m.ss.map λs=>s.s.nm).Nodup):dz m=tE:=by
 unfold dz;rw[hU,hU];exact .inl (.inr (ef h))
theorem BH {m:Mo}(h:¬(m.fs.map λf=>f.c.nm).Nodup):dz m=tE:=by
 unfold dz;rw[hU,hU];exact .inr (ef h)
theorem BI {m:Mo}(d:∀s∈m.ss,yh s.fs s.fs.length)(h:(m.ss.map λs=>s.s.nm).Nodup)(q:(m.fs.map λf=>f.c.nm).Nodup):dz m=tG:=by
 unfold dz;rw[cL (not_not_intro h),cL (not_not_intro q),lO,lO,lz];intro s u;have:=d s u;unfold yh at this;rw[de] at this;simp[this]
theorem yl (m:Mo)(w:World)(vh:m.inn w)(zd:m.ss.length<=90000)(zj:m.fs.length<=90000)(vq:∀s∈m.ss,s.fs.length<=90000):
  zP 47 #[tW m.cells] w (tU (dz m)):=by
 obtain⟨R,hR⟩:=zE (dz m);rw[hR];have HR:=zH hR;obtain⟨N,hN⟩:=zE w.heap.size;obtain⟨d,vc⟩:=zE (w.alloc (ua m.cells 25));have vr:=iq vc;have wi:d.heap.size=N+1:=by rw[<-vc];simp[hN]
 have wj:d.heap[N]?=tB (ua m.cells 25 (0,0)):=by rw[<-vc,<-hN];exact alloc_at _ _
 have HK:cm (∀W,bh d.heap.size d W->W.cell? ⟨N,0,tD⟩=tB (tP m.sA m.ss.length m.sC)/\W.cell? ⟨N,1,tD⟩=tB (tP m.fA m.fs.length m.fC)/\m.inn W/\bh w.heap.size w W):=λW u=>by
  have q1:=(u.block N (by omega)).trans wj;have h3:=vr.trans (u.mono vr.size);exact⟨by rw[cc _ _ _ _ _ _ q1];rfl,by rw[cc _ _ _ _ _ _ q1];rfl,vh.below h3,h3⟩
 have xt:=zH λW u nm=>iJ m nm W vh.ns (HK.out W u).2.2.1.srow;have xF:cm (∀W,bh d.heap.size d W->∀nm,zP 50 #[tW #[tP m.sA m.ss.length m.sC,tP m.fA m.fs.length m.fC],tM nm] W (Z U (m.fnIx nm))):=λW u nm=>nG m nm W vh.nf (HK.out W u).2.2.1.frow;have xT:=zH vq;have vu:=vc;simp only[Mo.cells] at vu;have ya:=zH vu;have zp:=zH wi;simp only[Mo.cells];clear vh vq vc vu vr wj hR wi;obtain⟨c0,c1,_,_⟩:=HK.out d (aq _ _);go_enter func47,ntmps47
 go_upto_region 1 with(fail)
 rw[ya.out]
 go_wp2_with fail
 go_loopw [3] (λk wr=>∃j:bx,j<=m.ss.length/\k= Z U (j:bp)/\(∀(q:bx)(s:St),q<j->m.ss[q]?=tB s->m.stIx s.s.nm=(q:bp)/\yh s.fs s.fs.length)/\bh d.heap.size d wr) (λk _=>m.ss.length-(intOf k).toNat)
 case atStart=>exact⟨0,cN _,rfl,λq s hq=>fW hq (kh _),aq _ _⟩
 case round=>
  rename World=>J;clear c0 c1;obtain⟨j,hj,rfl,D,hb⟩:=hrel;obtain⟨c0,c1,ue,ur⟩:=HK.out J hb;have HZ:=zH D;have HB:=zH hb;have zr:=zH ur
  by_cases vx:j<m.ss.length
  ·obtain⟨s,G⟩:∃y,m.ss[j]?=tB y:=⟨_,am vx⟩
   have vd:=cf G;obtain⟨v,uc,hA,vi,q1⟩:=ue.srow (by intro e;rw[e] at vx;simp at vx);have A:cm (∀W,bh J.heap.size J W->W.cell? ⟨N,0,tD⟩=tB (tP (tB ⟨v,uc,tD⟩) m.ss.length m.sC)/\W.cell? ⟨N,1,tD⟩=tB (tP m.fA m.fs.length m.fC)/\W.cell? ⟨v,uc+j*4,tD⟩=tB (tM s.s.nm)/\W.cell? ⟨v,uc+j*4+1,tD⟩=tB (tP s.s.fA s.fs.length s.s.fC)/\bh d.heap.size d W/\s.inn W):=λW u=>by
    have h:=HB.out.trans (u.mono HB.out.size);obtain⟨k0,k1,k2,_⟩:=HK.out W h;refine⟨by rw[<-hA];exact k0,k1,by rw[u.cell (p:=⟨v,_,tD⟩) vi];exact q1 j s G 0 _ rfl, ?_,h,k2.sin s vd⟩;rw[u.cell (p:=⟨v,_,tD⟩) vi,<-(ue.sin s vd).nf];exact q1 j s G 1 _ rfl
   have zv:(j:bp)<(m.ss.length:bp):=by omega
   have HS:=zH G;have yb:=zH vd;have vq:=xT.out s vd;obtain⟨x,hx⟩:=zE (m.stIx s.s.nm);have HX:=zH hx;have HC:cm (∀p:BW J,zP 84 #[tW #[tP (tB ⟨v,uc,tD⟩) m.ss.length m.sC,tP m.fA m.fs.length m.fC],tM s.s.nm] p.w (Z U x)):=λp=>by
    rw[<-hA,<-hx];exact xt.out p.w (A.out p.w p.h).2.2.2.2.1 s.s.nm
   have m0:∀p:BW J,p.w.cell? ⟨N,0,tD⟩=tB (tP (tB ⟨v,uc,tD⟩) m.ss.length m.sC):=λp=>(A.out p.w p.h).1;have m1:∀p:BW J,p.w.cell? ⟨N,1,tD⟩=tB (tP m.fA m.fs.length m.fC):=λp=>(A.out p.w p.h).2.1;have m2:∀p:BW J,p.w.cell? ⟨v,uc+j*4,tD⟩=tB (tM s.s.nm):=λp=>(A.out p.w p.h).2.2.1;clear D hb ur G vd ue hx
   go_wp2_with fail
   clear c0 c1 q1;refine zQ ?_
   repeat (go_big_quiet_step (first|(go_at_call 84;exact aW (HC.out _))))
   refine eh ?_;rintro _ ⟨p,rfl⟩
   by_cases uv:x=(j:bp)
   ·subst uv
    obtain⟨W2,vy⟩:=p
    show Exit.then _ _ _ _ W2
    obtain⟨c0,c1,c2,c3,wk,yd⟩:=A.out W2 vy;have we:=zH wk;have ye:=zH vy;clear m0 m1 m2 wk vy yd
    go_wp2_with fail
    go_loopw [5] (λk yi=>∃i:bx,i<=s.fs.length/\k= Z U (i:bp)/\yh s.fs i/\bh J.heap.size J yi) (λk _=>s.fs.length-(intOf k).toNat)
    case atStart=>exact⟨0,cN _,rfl,by unfold yh;simp,ye.out⟩
    case round=>
     obtain⟨i,hi,rfl,wl,vj⟩:=hrel;have ws:=zH wl;have wx:=zH vj;clear c0 c1 c2 c3 wl
     by_cases ud:i<s.fs.length
     ·obtain⟨y,hy⟩:∃y,s.fs[i]?=tB y:=⟨_,am ud⟩
      obtain⟨f1,fo,vm,_,_⟩:=(A.out wr vj).2.2.2.2.2.row (by intro e;rw[e] at ud;simp at ud);have xf:cm (∀W,bh J.heap.size J W->∀(q:bx)(z:Fd),s.fs[q]?=tB z->W.cell? ⟨f1,fo+q*5,tD⟩=tB (tM z.nm)):=λW u q z D=>by
       obtain⟨f2,An,vp,_,q2⟩:=(A.out W u).2.2.2.2.2.row (by intro e;rw[e] at ud;simp at ud);rw[vm] at vp;simp only[dt,eW,pc] at vp;rw[vp.1,vp.2];exact q2 q z D 0 _ rfl
      have yk:(i:bp)<(s.fs.length:bp):=by omega
      have HY:=zH hy;have As:=zH vm;rw[vm];clear hy vj vm
      go_wp2_with fail
      go_loopw [6] (λk yp=>∃q:bx,q<=i/\k= Z U (q:bp)/\(∀z∈s.fs.take q,(z.nm==y.nm)=tG)/\bh J.heap.size J yp) (λk _=>i-(intOf k).toNat)
      case atStart=>exact⟨0,cN _,rfl,by simp,wx.out⟩
      case round=>
       obtain⟨q,hq,rfl,D,ux⟩:=hrel;have xj:=zH D;have xl:=zH ux
       by_cases yq:q<i
       ·obtain⟨x,hx⟩:∃y,s.fs[q]?=tB y:=⟨_,am (by omega)⟩
        have d0:wr.cell? ⟨f1,fo+q*5,tD⟩=tB (tM x.nm):=xf.out wr ux q x hx;have d1:wr.cell? ⟨f1,fo+i*5,tD⟩=tB (tM y.nm):=xf.out wr ux i y HY.out;have At:(q:bp)<(i:bp):=by omega
        have Ax:(q:bp)<(s.fs.length:bp):=by omega
        have xo:=zH hx
        by_cases hd:x.nm=y.nm
        ·have va:cm (R=tE):=by unfold cm;rw[<-HR.out];exact Ac yb.out xo.out HY.out yq hd
         have vf:cm (bh w.heap.size w wr):=(HK.out wr (HB.out.trans (ux.mono HB.out.size))).2.2.2;rw[hd] at d0;clear D hx ux;go_wp2
         go_quiet (fail)
         go_wp2;go_ret;rw[va.out];exact⟨rfl,lB vf.out _⟩
        ·have xp:¬(x.nm.toList=y.nm.toList):=λe=>hd (eq_of_beq (by rw[fY,e];simp))
         have AD:(x.nm.toList==y.nm.toList)=tG:=by simpa using xp
         clear xp;have yr:cm ((x.nm==y.nm)=tG):=by unfold cm;simp[hd]
         clear D hx ux hd;go_wp2
         go_quiet (fail)
         go_wp2;go_roundw
         case rel=>exact⟨q+1,by omega,by go_num,d9 (p:=λz:Fd=>z.nm==y.nm) xj.out xo.out yr.out,lB xl.out _⟩
         case measure=>simp[intOf];omega
       ·have yv:q=i:=by omega
        subst yv;clear D ux;go_wp2;go_roundw
        case rel=>exact⟨q+1,by omega,by go_num,ws.out.next HY.out xj.out,xl.out⟩
        case measure=>simp[intOf];omega
     ·have wg:i=s.fs.length:=by omega
      subst wg;clear vj;go_wp2;go_roundw
      case rel=>exact⟨j+1,by omega,by go_num,λq t hq ht=>by
       rcases j8 q j with h|h
       ·exact HZ.out q t h ht
       ·have e:q=j:=by omega
        rw[e,HS.out] at ht;rw[<-cD ht,e];exact⟨HX.out,ws.out⟩,HB.out.trans (wx.out.mono HB.out.size)⟩
      case measure=>simp[intOf];omega
   ·have va:cm (R=tE):=by unfold cm;rw[<-HR.out];exact yj (wI (nm:=λt:St=>t.s.nm) HS.out (λe=>uv (by rw[<-HX.out];exact e)))
    have yy:(x != (j:bp))=tE:=by rw[qq];exact uv
    have vf:cm (bh w.heap.size w p.w):=(HK.out p.w (A.out p.w p.h).2.2.2.2.1).2.2.2;clear m0 m1 m2;go_wp2;go_ret;rw[va.out];exact⟨rfl,vf.out⟩
  ·have yW:j=m.ss.length:=by omega
   subst yW;clear D hb ur ue
   go_wp2_with fail
   clear c0 c1
   go_loopw [7] (λk wr=>∃i:bx,i<=m.fs.length/\k= Z U (i:bp)/\(∀(q:bx)(f:Fn),q<i->m.fs[q]?=tB f->m.fnIx f.c.nm=(q:bp))/\bh d.heap.size d wr) (λk _=>m.fs.length-(intOf k).toNat)
   case atStart=>exact⟨0,cN _,rfl,λq s hq=>fW hq (kh _),HB.out⟩
   case round=>
    obtain⟨i,hi,rfl,D,hb⟩:=hrel;obtain⟨c0,c1,ue,ur⟩:=HK.out wr hb;have xr:=zH D;have we:=zH hb;have zc:=zH ur
    by_cases ud:i<m.fs.length
    ·obtain⟨f,G⟩:∃y,m.fs[i]?=tB y:=⟨_,am ud⟩
     obtain⟨v,uc,hA,vi,q1⟩:=ue.frow (by intro e;rw[e] at ud;simp at ud);have A:cm (∀W,bh wr.heap.size wr W->W.cell? ⟨N,0,tD⟩=tB (tP m.sA m.ss.length m.sC)/\W.cell? ⟨N,1,tD⟩=tB (tP (tB ⟨v,uc,tD⟩) m.fs.length m.fC)/\W.cell? ⟨v,uc+i*8,tD⟩=tB (tM f.c.nm)/\bh d.heap.size d W):=λW u=>by
      have h:=we.out.trans (u.mono we.out.size);obtain⟨k0,k1,_,_⟩:=HK.out W h;exact⟨k0,by rw[<-hA];exact k1,by rw[u.cell (p:=⟨v,_,tD⟩) vi];exact q1 i f G 0 _ rfl,h⟩
     have yk:(i:bp)<(m.fs.length:bp):=by omega
     have HS:=zH G;obtain⟨x,hx⟩:=zE (m.fnIx f.c.nm);have HX:=zH hx;have HC:cm (∀p:BW wr,zP 50 #[tW #[tP m.sA m.ss.length m.sC,tP (tB ⟨v,uc,tD⟩) m.fs.length m.fC],tM f.c.nm] p.w (Z U x)):=λp=>by
      rw[<-hA,<-hx];exact xF.out p.w (A.out p.w p.h).2.2.2 f.c.nm
     have m0:∀p:BW wr,p.w.cell? ⟨N,0,tD⟩=tB (tP m.sA m.ss.length m.sC):=λp=>(A.out p.w p.h).1;have m1:∀p:BW wr,p.w.cell? ⟨N,1,tD⟩=tB (tP (tB ⟨v,uc,tD⟩) m.fs.length m.fC):=λp=>(A.out p.w p.h).2.1;have m2:∀p:BW wr,p.w.cell? ⟨v,uc+i*8,tD⟩=tB (tM f.c.nm):=λp=>(A.out p.w p.h).2.2.1;clear D hb ur G ue hx
     go_wp2_with fail
     clear c0 c1 q1;refine zQ ?_
     repeat (go_big_quiet_step (first|(go_at_call 50;exact aW (HC.out _))))
     refine eh ?_;rintro _ ⟨p,rfl⟩
     by_cases uv:x=(i:bp)
     ·subst uv
      clear m0 m1 m2;go_wp2;go_roundw
      case rel=>exact⟨i+1,by omega,by go_num,λq t hq ht=>by
       rcases j8 q i with h|h
       ·exact xr.out q t h ht
       ·have e:q=i:=by omega
        rw[e,HS.out] at ht;rw[<-cD ht,e];exact HX.out,(A.out p.w p.h).2.2.2⟩
      case measure=>simp[intOf];omega
     ·have va:cm (R=tE):=by unfold cm;rw[<-HR.out];exact BH (wI (nm:=λt:Fn=>t.c.nm) HS.out (λe=>uv (by rw[<-HX.out];exact e)))
      have yy:(x != (i:bp))=tE:=by rw[qq];exact uv
      have vf:cm (bh w.heap.size w p.w):=(HK.out p.w (A.out p.w p.h).2.2.2).2.2.2;clear m0 m1 m2;go_wp2;go_ret;rw[va.out];exact⟨rfl,vf.out⟩
    ·have wg:i=m.fs.length:=by omega
     subst wg;have va:cm (R=tG):=by
      unfold cm;rw[<-HR.out];refine BI (λs G=> ?_) (Ab (nm:=λt:St=>t.s.nm) λq s G=> ?_) (Ab (nm:=λt:Fn=>t.c.nm) λq f hf=> ?_)
      ·obtain⟨q,hq⟩:=List.mem_iff_getElem?.1 G
       exact(HZ.out q s (ap.1 hq).1 hq).2
      ·exact(HZ.out q s (ap.1 G).1 G).1
      ·exact xr.out q f (ap.1 hf).1 hf
     clear D hb ur ue;go_wp2;go_ret;rw[va.out];exact⟨rfl,zc.out⟩
theorem Ad {m:Mo}{s:St}{y:Fd}(d:s∈m.ss)(f:y∈s.fs)(h:m.known y.ty=tG):(!(bP m).all m.known)=tE:=by
 rw[se,m9];exact⟨y.ty,cT.2 (.inl (em.2 ⟨s,d,dy.2 ⟨y,f,rfl⟩⟩)),by simp[h]⟩
theorem Dj {m:Mo}{f:Fn}(d:f∈m.fs)(h:m.known f.ret=tG):(!(bP m).all m.known)=tE:=by
 rw[se,m9];exact⟨f.ret,cT.2 (.inr (em.2 ⟨f,d,by simp⟩)),by simp[h]⟩
theorem Dk {m:Mo}{f:Fn}{y:Vr}(d:f∈m.fs)(q:y∈f.vs)(h:m.known y.ty=tG):(!(bP m).all m.known)=tE:=by
 rw[se,m9];exact⟨y.ty,cT.2 (.inr (em.2 ⟨f,d,pn _ (dy.2 ⟨y,q,rfl⟩)⟩)),by simp[h]⟩
theorem Dl {m:Mo}(A:∀s∈m.ss,∀y∈s.fs,m.known y.ty=tE)(u:∀f∈m.fs,m.known f.ret=tE/\∀y∈f.vs,m.known y.ty=tE):(!(bP m).all m.known)=tG:=by
 rw[Bool.not_eq_false',js];intro t d;rcases cT.1 d with h|h
 ·obtain⟨s,D,d⟩:=em.1 h
  obtain⟨y,q,rfl⟩:=dy.1 d;exact A s D y q
 ·obtain⟨f,v,d⟩:=em.1 h
  rcases fy.1 d with rfl|d
  ·exact(u f v).1
  ·obtain⟨y,q,rfl⟩:=dy.1 d
   exact(u f v).2 y q
theorem sM (m:Mo)(w:World)(vq:m.inn w)(yv:m.ss.length<=90000)(yy:m.fs.length<=90000)(vr:∀s∈m.ss,s.fs.length<=90000)(vu:∀f∈m.fs,f.vs.length<=90000):
  zP 48 #[tW m.cells] w (tU (!(bP m).all m.known)):=by
 obtain⟨R,hR⟩:=zE (!(bP m).all m.known);rw[hR];have HR:=zH hR;obtain⟨N,hN⟩:=zE w.heap.size;obtain⟨u,vd⟩:=zE (w.alloc (ua m.cells 25));have vx:=iq vd;have xf:u.heap.size=N+1:=by rw[<-vd];simp[hN]
 have xj:u.heap[N]?=tB (ua m.cells 25 (0,0)):=by rw[<-vd,<-hN];exact alloc_at _ _
 have HK:cm (∀W,bh u.heap.size u W->W.cell? ⟨N,0,tD⟩=tB (tP m.sA m.ss.length m.sC)/\W.cell? ⟨N,1,tD⟩=tB (tP m.fA m.fs.length m.fC)/\m.inn W/\bh w.heap.size w W):=λW hW=>by
  have q1:=(hW.block N (by omega)).trans xj;have h3:=vx.trans (hW.mono vx.size);exact⟨by rw[cc _ _ _ _ _ _ q1];rfl,by rw[cc _ _ _ _ _ _ q1];rfl,vq.below h3,h3⟩
 have vy:cm (∀W,bh u.heap.size u W->∀t:Ty,zP 85 #[tW #[tP m.sA m.ss.length m.sC,tP m.fA m.fs.length m.fC],tW #[tU t.1,tM t.2]] W (tU (m.known t))):=λW hW t=>xY m t.1 t.2 W vq.ns (HK.out W hW).2.2.1.srow;have xr:=zH vr;have xt:=zH vu;have we:=vd;simp only[Mo.cells] at we;have xF:=zH we;have yW:=zH xf;simp only[Mo.cells];clear vq vr vu vd we vx xj hR xf;obtain⟨c0,c1,_,_⟩:=HK.out u (aq _ _);go_enter func48,ntmps48
 go_upto_region 1 with(fail)
 rw[xF.out]
 go_wp2_with fail
 go_loopw [3] (λk wr=>∃j:bx,j<=m.ss.length/\k= Z U (j:bp)/\(∀s∈m.ss.take j,∀y∈s.fs,m.known y.ty=tE)/\bh u.heap.size u wr) (λk _=>m.ss.length-(intOf k).toNat)
 case atStart=>exact⟨0,cN _,rfl,by simp,aq _ _⟩
 case round=>
  rename World=>wo;clear c0 c1;obtain⟨j,hj,rfl,hz,hb⟩:=hrel;obtain⟨c0,c1,ur,va⟩:=HK.out wo hb;have HZ:=zH hz;have HB:=zH hb
  by_cases vf:j<m.ss.length
  ·obtain⟨s,hs⟩:∃y,m.ss[j]?=tB y:=⟨_,am vf⟩
   have vh:=cf hs;obtain⟨v,A,hA,xT,q1⟩:=ur.srow (by intro e;rw[e] at vf;simp at vf);have D:cm (∀W,bh u.heap.size u W->W.cell? ⟨N,0,tD⟩=tB (tP (tB ⟨v,A,tD⟩) m.ss.length m.sC)/\W.cell? ⟨N,1,tD⟩=tB (tP m.fA m.fs.length m.fC)/\W.cell? ⟨v,A+j*4+1,tD⟩=tB (tP s.s.fA s.fs.length s.s.fC)/\s.inn W):=λW hW=>by
    obtain⟨k0,k1,k2,_⟩:=HK.out W hW;obtain⟨g2,ya,hA2,_,J⟩:=k2.srow (by intro e;rw[e] at vf;simp at vf);rw[hA] at hA2;simp only[dt,eW,pc] at hA2;refine⟨by rw[<-hA];exact k0,k1, ?_,k2.sin s vh⟩;rw[<-(k2.sin s vh).nf,hA2.1,hA2.2];exact J j s hs 1 _ rfl
   have zc:(j:bp)<(m.ss.length:bp):=by omega
   have HS:=zH hs;have yb:=zH vh;have vr:=xr.out s vh;have HA:=zH hA;clear hz hb va hs vh ur c0 c1 q1 hA;obtain⟨c0,c1,c2,_⟩:=D.out wo HB.out
   go_wp2_with fail
   clear c0 c1 c2
   go_loopw [4] (λk wr=>∃i:bx,i<=s.fs.length/\k= Z U (i:bp)/\(∀y∈s.fs.take i,m.known y.ty=tE)/\bh u.heap.size u wr) (λk _=>s.fs.length-(intOf k).toNat)
   case atStart=>exact⟨0,cN _,rfl,by simp,HB.out⟩
   case round=>
    obtain⟨i,hi,rfl,uc,ud⟩:=hrel;have wg:=zH uc;have uv:=zH ud;obtain⟨c0,c1,c2,wi⟩:=D.out wr ud
    by_cases ue:i<s.fs.length
    ·obtain⟨y,hy⟩:∃y,s.fs[i]?=tB y:=⟨_,am ue⟩
     obtain⟨f1,fo,vi,vj,J⟩:=wi.row (by intro e;rw[e] at ue;simp at ue);have yd:(i:bp)<(s.fs.length:bp):=by omega
     have HY:=zH hy;obtain⟨d,hd⟩:=zE (m.known y.ty);have vm:=zH hd;have G:cm (∀p:BW wr,bh u.heap.size u p.w):=λp=>uv.out.trans (p.h.mono uv.out.size);have HC:cm (∀p:BW wr,zP 85 #[tW #[tP (tB ⟨v,A,tD⟩) m.ss.length m.sC,tP m.fA m.fs.length m.fC],tW #[tU y.ptr,tM y.tgt]] p.w (tU d)):=λp=>by
      rw[<-HA.out,<-hd];exact vy.out p.w (G.out p) y.ty
     have m0:∀p:BW wr,p.w.cell? ⟨N,0,tD⟩=tB (tP (tB ⟨v,A,tD⟩) m.ss.length m.sC):=λp=>(D.out p.w (G.out p)).1;have m1:∀p:BW wr,p.w.cell? ⟨N,1,tD⟩=tB (tP m.fA m.fs.length m.fC):=λp=>(D.out p.w (G.out p)).2.1;have m2:∀p:BW wr,p.w.cell? ⟨v,A+j*4+1,tD⟩=tB (tP (tB ⟨f1,fo,tD⟩) s.fs.length s.s.fC):=λp=>by rw[<-vi];exact(D.out p.w (G.out p)).2.2.1
     have m3:∀p:BW wr,p.w.cell? ⟨f1,fo+i*5+1,tD⟩=tB (tU y.ptr):=λp=>by rw[p.h.cell (p:=⟨f1,_,tD⟩) vj];exact J i y hy 1 _ rfl
     have m4:∀p:BW wr,p.w.cell? ⟨f1,fo+i*5+1+1,tD⟩=tB (tM y.tgt):=λp=>by rw[p.h.cell (p:=⟨f1,_,tD⟩) vj];exact J i y hy 2 _ rfl
     clear uc ud wi hy hd vi J
     go_wp2_with fail
     clear c0 c1 c2;refine zQ ?_
     repeat (go_big_quiet_step (first|(go_at_call 85;exact aW (HC.out _))))
     refine eh ?_;rintro _ ⟨p,rfl⟩;have wj:cm (bh w.heap.size w p.w):=(HK.out p.w (G.out p)).2.2.2;clear m0 m1 m2 m3 m4;cases d with
     |false=>
      have ux:cm (R=tE):=by unfold cm;rw[<-HR.out];exact Ad yb.out (cf HY.out) vm.out
      go_wp2;go_ret;rw[ux.out];exact⟨rfl,wj.out⟩
     |true=>
      go_wp2;go_roundw
      case rel=>exact⟨i+1,by omega,by go_num,dE (p:=λy:Fd=>m.known y.ty=tE) wg.out HY.out vm.out,G.out p⟩
      case measure=>simp[intOf];omega
    ·have wk:i=s.fs.length:=by omega
     subst wk;rw[de] at uc;have wl:=zH uc;clear ud uc wi;go_wp2;go_roundw
     case rel=>exact⟨j+1,by omega,by go_num,dE (p:=λs:St=>∀y∈s.fs,m.known y.ty=tE) HZ.out HS.out wl.out,uv.out⟩
     case measure=>simp[intOf];omega
  ·have ye:j=m.ss.length:=by omega
   subst ye;rw[de] at hz;have HZ:=zH hz;clear hz hb va ur
   go_wp2_with fail
   clear c0 c1
   go_loopw [5] (λk wr=>∃i:bx,i<=m.fs.length/\k= Z U (i:bp)/\(∀f∈m.fs.take i,m.known f.ret=tE/\∀y∈f.vs,m.known y.ty=tE)/\bh u.heap.size u wr) (λk _=>m.fs.length-(intOf k).toNat)
   case atStart=>exact⟨0,cN _,rfl,by simp,HB.out⟩
   case round=>
    rename World=>wp;obtain⟨i,hi,rfl,hz,hb⟩:=hrel;obtain⟨c0,c1,ur,va⟩:=HK.out wp hb;have yi:=zH hz;have xl:=zH hb;have yk:=zH va
    by_cases ue:i<m.fs.length
    ·obtain⟨f,hs⟩:∃y,m.fs[i]?=tB y:=⟨_,am ue⟩
     have vp:=cf hs;obtain⟨v,A,hA,xT,q1⟩:=ur.frow (by intro e;rw[e] at ue;simp at ue);have D:cm (∀W,bh u.heap.size u W->W.cell? ⟨N,0,tD⟩=tB (tP m.sA m.ss.length m.sC)/\W.cell? ⟨N,1,tD⟩=tB (tP (tB ⟨v,A,tD⟩) m.fs.length m.fC)/\W.cell? ⟨v,A+i*8+2,tD⟩=tB (tP f.c.varsA f.vs.length f.c.varsC)/\W.cell? ⟨v,A+i*8+3,tD⟩=tB (tU f.c.rp)/\W.cell? ⟨v,A+i*8+3+1,tD⟩=tB (tM f.c.rto)/\f.inn W):=λW hW=>by
      obtain⟨k0,k1,k2,_⟩:=HK.out W hW;obtain⟨g2,ya,hA2,_,J⟩:=k2.frow (by intro e;rw[e] at ue;simp at ue);rw[hA] at hA2;simp only[dt,eW,pc] at hA2;refine⟨k0,by rw[<-hA];exact k1, ?_,by rw[hA2.1,hA2.2];exact J i f hs 3 _ rfl,by rw[hA2.1,hA2.2];exact J i f hs 4 _ rfl,k2.fin f vp⟩;rw[<-(k2.fin f vp).nvars,hA2.1,hA2.2];exact J i f hs 2 _ rfl
     have yd:(i:bp)<(m.fs.length:bp):=by omega
     have HS:=zH hs;have xo:=zH vp;have HA:=zH hA;have vu:=xt.out f vp;obtain⟨d,hd⟩:=zE (m.known f.ret);have vm:=zH hd;have G:cm (∀p:BW wp,bh u.heap.size u p.w):=λp=>xl.out.trans (p.h.mono xl.out.size);have HC:cm (∀p:BW wp,zP 85 #[tW #[tP m.sA m.ss.length m.sC,tP (tB ⟨v,A,tD⟩) m.fs.length m.fC],tW #[tU f.c.rp,tM f.c.rto]] p.w (tU d)):=λp=>by
      rw[<-HA.out,<-hd];exact vy.out p.w (G.out p) f.ret
     have m0:∀p:BW wp,p.w.cell? ⟨N,0,tD⟩=tB (tP m.sA m.ss.length m.sC):=λp=>(D.out p.w (G.out p)).1;have m1:∀p:BW wp,p.w.cell? ⟨N,1,tD⟩=tB (tP (tB ⟨v,A,tD⟩) m.fs.length m.fC):=λp=>(D.out p.w (G.out p)).2.1;have m3:∀p:BW wp,p.w.cell? ⟨v,A+i*8+3,tD⟩=tB (tU f.c.rp):=λp=>(D.out p.w (G.out p)).2.2.2.1;have m4:∀p:BW wp,p.w.cell? ⟨v,A+i*8+3+1,tD⟩=tB (tM f.c.rto):=λp=>(D.out p.w (G.out p)).2.2.2.2.1;clear hz hb va hs ur hd vp hA q1
     go_wp2_with fail
     clear c0 c1;refine zQ ?_
     repeat (go_big_quiet_step (first|(go_at_call 85;exact aW (HC.out _))))
     refine eh ?_;rintro _ ⟨p,rfl⟩;have wj:cm (bh w.heap.size w p.w):=(HK.out p.w (G.out p)).2.2.2;clear m0 m1 m3 m4;cases d with
     |false=>
      have ux:cm (R=tE):=by unfold cm;rw[<-HR.out];exact Dj xo.out vm.out
      go_wp2;go_ret;rw[ux.out];exact⟨rfl,wj.out⟩
     |true=>
      go_wp2_with fail
      go_loopw [6] (λk wr=>∃q:bx,q<=f.vs.length/\k= Z U (q:bp)/\(∀y∈f.vs.take q,m.known y.ty=tE)/\bh u.heap.size u wr) (λk _=>f.vs.length-(intOf k).toNat)
      case atStart=>exact⟨0,cN _,rfl,by simp,G.out p⟩
      case round=>
       obtain⟨q,hq,rfl,uc,ud⟩:=hrel;have wg:=zH uc;have uv:=zH ud;obtain⟨c0,c1,c2,_,_,ws⟩:=D.out wr ud
       by_cases wx:q<f.vs.length
       ·obtain⟨y,hy⟩:∃y,f.vs[q]?=tB y:=⟨_,am wx⟩
        obtain⟨f1,fo,vi,vj,J⟩:=ws.vars (by intro e;rw[e] at wx;simp at wx);have zd:(q:bp)<(f.vs.length:bp):=by omega
        have HY:=zH hy;obtain⟨d,hd⟩:=zE (m.known y.ty);have xp:=zH hd;have vc:cm (∀p:BW wr,bh u.heap.size u p.w):=λp=>uv.out.trans (p.h.mono uv.out.size);have yp:cm (∀p:BW wr,zP 85 #[tW #[tP m.sA m.ss.length m.sC,tP (tB ⟨v,A,tD⟩) m.fs.length m.fC],tW #[tU y.ptr,tM y.tgt]] p.w (tU d)):=λp=>by
         rw[<-HA.out,<-hd];exact vy.out p.w (vc.out p) y.ty
        have m0:∀p:BW wr,p.w.cell? ⟨N,0,tD⟩=tB (tP m.sA m.ss.length m.sC):=λp=>(D.out p.w (vc.out p)).1;have m1:∀p:BW wr,p.w.cell? ⟨N,1,tD⟩=tB (tP (tB ⟨v,A,tD⟩) m.fs.length m.fC):=λp=>(D.out p.w (vc.out p)).2.1;have m2:∀p:BW wr,p.w.cell? ⟨v,A+i*8+2,tD⟩=tB (tP (tB ⟨f1,fo,tD⟩) f.vs.length f.c.varsC):=λp=>by rw[<-vi];exact(D.out p.w (vc.out p)).2.2.1
        have m3:∀p:BW wr,p.w.cell? ⟨f1,fo+q*3,tD⟩=tB (tU y.ptr):=λp=>by rw[p.h.cell (p:=⟨f1,_,tD⟩) vj];exact J q y hy 0 _ rfl
        have m4:∀p:BW wr,p.w.cell? ⟨f1,fo+q*3+1,tD⟩=tB (tM y.tgt):=λp=>by rw[p.h.cell (p:=⟨f1,_,tD⟩) vj];exact J q y hy 1 _ rfl
        clear uc ud ws hy hd vi J
        go_wp2_with fail
        clear c0 c1 c2;refine zQ ?_
        repeat (go_big_quiet_step (first|(go_at_call 85;exact aW (yp.out _))))
        refine eh ?_;rintro _ ⟨p,rfl⟩;have yq:cm (bh w.heap.size w p.w):=(HK.out p.w (vc.out p)).2.2.2;clear m0 m1 m2 m3 m4;cases d with
        |false=>
         have ux:cm (R=tE):=by unfold cm;rw[<-HR.out];exact Dk xo.out (cf HY.out) xp.out
         go_wp2;go_ret;rw[ux.out];exact⟨rfl,yq.out⟩
        |true=>
         go_wp2;go_roundw
         case rel=>exact⟨q+1,by omega,by go_num,dE (p:=λy:Vr=>m.known y.ty=tE) wg.out HY.out xp.out,vc.out p⟩
         case measure=>simp[intOf];omega
       ·have yr:q=f.vs.length:=by omega
        subst yr;rw[de] at uc;have wl:=zH uc;clear ud uc ws;go_wp2;go_roundw
        case rel=>exact⟨i+1,by omega,by go_num,dE (p:=λf:Fn=>m.known f.ret=tE/\∀y∈f.vs,m.known y.ty=tE) yi.out HS.out ⟨vm.out,wl.out⟩,uv.out⟩
        case measure=>simp[intOf];omega
    ·have wk:i=m.fs.length:=by omega
     subst wk;rw[de] at hz;have ux:cm (R=tG):=by unfold cm;rw[<-HR.out];exact Dl HZ.out hz
     clear hz hb va ur;go_wp2;go_ret;rw[ux.out];exact⟨rfl,yk.out⟩
theorem l8 (m:Mo)(w:World)(h:dR w m):
  zP 13 #[tW m.cells] w (Z U (bf m)):=by
 obtain⟨R,hR⟩:=zE (bf m);have HR:cm (R=if 30<m.ss.length\/60<m.fs.length then 2
  else if dz m=tE then 6
  else if (bP m).all m.known=tG then 5
  else if aQ (codeF m) m.fs≠0 then aQ (codeF m) m.fs
  else bM (decide (0<=m.fnIx dG)&&(match m.fs[(m.fnIx dG).toNat]? with
   |some g=>decide (g.c.par=0)&& !g.c.rp
   |none=>tG)) 9):=hR.symm
 rw[hR];obtain⟨N,hN⟩:=zE w.heap.size;obtain⟨D,vp⟩:=zE (w.alloc (ua m.cells 25));have zd:=iV vp hN;have zj:D.heap.size=N+1:=by rw[<-vp];simp[hN]
 have zp:D.heap[N]?=tB (ua m.cells 25 (0,0)):=by rw[<-vp,<-hN];exact alloc_at _ _
 have AN:cm (∀W,bh N w W->dR W m):=λW hW=>⟨h.mo.below (by rw[hN];exact hW),h.sl,h.fl,h.fd,h.vl,h.al⟩
 have HK:cm (∀W,bh D.heap.size D W->W.heap[N]?=tB (ua m.cells 25 (0,0))/\W.cell? ⟨N,0,tD⟩=tB (tP m.sA m.ss.length m.sC)/\W.cell? ⟨N,1,tD⟩=tB (tP m.fA m.fs.length m.fC)/\dR W m/\bh N w W):=λW hW=>by
  have q1:=(hW.block N (by omega)).trans zp;have h3:=zd.trans (hW.mono (show N<=D.heap.size by omega));exact⟨q1,by rw[cc _ _ _ _ _ _ q1];rfl,by rw[cc _ _ _ _ _ _ q1];rfl,AN.out W h3,h3⟩
 have xl:=vp;simp only[Mo.cells] at xl;have zr:=zH xl;have Cd:=zH zj;have AS:cm (∀W,bh N w W->N<=W.heap.size):=λW hW=>by have:=hW.size;omega
 unfold zP;rw[hN];simp only[Mo.cells];clear h vp xl zd zp hR zj;obtain⟨hr,c0,c1,_,_⟩:=HK.out D (aq _ _);have zv:=zH hr;clear hr;go_enter func13,ntmps13
 go_upto_region 1 with(fail)
 rw[zr.out];clear zr hN
 by_cases g1:30<m.ss.length
 ·have A:cm (R=2):=by unfold cm;rw[HR.out,cR (.inl g1)]
  clear HR;go_wp2;go_ret;rw[A.out];exact⟨rfl,(HK.out D (aq _ _)).2.2.2.2⟩
 by_cases g2:60<m.fs.length
 ·have A:cm (R=2):=by unfold cm;rw[HR.out,cR (.inr g2)]
  clear HR;go_wp2;go_ret;rw[A.out];exact⟨rfl,(HK.out D (aq _ _)).2.2.2.2⟩
 have vq:cm (R=if dz m=tE then 6
  else if (bP m).all m.known=tG then 5
  else if aQ (codeF m) m.fs≠0 then aQ (codeF m) m.fs
  else bM (decide (0<=m.fnIx dG)&&(match m.fs[(m.fnIx dG).toNat]? with
   |some g=>decide (g.c.par=0)&& !g.c.rp
   |none=>tG)) 9):=by unfold cm;rw[HR.out,cE (by omega)]
 clear HR;have ws:cm (zP 47 #[tW m.cells] D (tU (dz m))):=by
  obtain⟨_,_,_,h4,_⟩:=HK.out D (aq _ _);exact yl m D h4.mo h4.sl h4.fl h4.fd
 obtain⟨tw,An⟩:=zE (dz m);rw[An] at ws vq;clear An
 go_upto_region 3 with(fail)
 cases tw with
 |true=>
  have A:cm (R=6):=by unfold cm;rw[vq.out,cR rfl]
  clear vq
  go_wp2_with (first
   |(refine ci rfl 25 _ rfl N rfl 25 m.cells (0,0) _ zv.out fk rfl (by kernel_rfl) ?_)
   |(go_at_call 47;refine ws.out.mono ?_;rintro e w3 ⟨rfl,uv⟩;have ux:=zH uv;clear uv))
  go_ret;rw[A.out];exact⟨rfl,(HK.out w3 ux.out).2.2.2.2⟩
 |false=>
 have vr:cm (R=if (bP m).all m.known=tG then 5
  else if aQ (codeF m) m.fs≠0 then aQ (codeF m) m.fs
  else bM (decide (0<=m.fnIx dG)&&(match m.fs[(m.fnIx dG).toNat]? with
   |some g=>decide (g.c.par=0)&& !g.c.rp
   |none=>tG)) 9):=by unfold cm;rw[vq.out,cE (by simp)]
 clear vq
 go_upto_region 5 with(first
   |(refine ci rfl 25 _ rfl N rfl 25 m.cells (0,0) _ zv.out fk rfl (by kernel_rfl) ?_)
   |(go_at_call 47;refine ws.out.mono ?_;rintro e w3 ⟨rfl,uv⟩;have ux:=zH uv;clear uv))
 clear c0 c1 ws;obtain⟨hr,c0,c1,h4,_⟩:=HK.out w3 ux.out;have xo:=zH hr;have vh:cm (zP 48 #[tW m.cells] w3 (tU (!(bP m).all m.known))):=sM m w3 h4.mo h4.sl h4.fl h4.fd h4.vl;clear hr h4;obtain⟨un,wx⟩:=zE ((bP m).all m.known);rw[wx] at vh vr;cases un with
 |false=>
  have A:cm (R=5):=by unfold cm;rw[vr.out,cR rfl]
  clear vr wx;rw[qT] at vh
  go_wp2_with (first
   |(refine ci rfl 25 _ rfl N rfl 25 m.cells (0,0) _ xo.out fk rfl (by kernel_rfl) ?_)
   |(go_at_call 48;refine vh.out.mono ?_;rintro e w4 ⟨rfl,vu⟩;have xp:=zH vu;clear vu))
  go_ret;rw[A.out];exact⟨rfl,(HK.out w4 (ux.out.trans (xp.out.mono ux.out.size))).2.2.2.2⟩
 |true=>
 have xf:cm (R=if aQ (codeF m) m.fs≠0 then aQ (codeF m) m.fs
  else bM (decide (0<=m.fnIx dG)&&(match m.fs[(m.fnIx dG).toNat]? with
   |some g=>decide (g.c.par=0)&& !g.c.rp
   |none=>tG)) 9):=by unfold cm;rw[vr.out,cE (by simp)]
 have AT:cm (∀t∈bP m,m.known t=tE):=js.1 wx;clear vr wx;rw[sy] at vh
 go_upto_region 7 with(first
   |(refine ci rfl 25 _ rfl N rfl 25 m.cells (0,0) _ xo.out fk rfl (by kernel_rfl) ?_)
   |(go_at_call 48;refine vh.out.mono ?_;rintro e w4 ⟨rfl,vu⟩;have xp:cm (bh D.heap.size D w4):=ux.out.trans (vu.mono ux.out.size);clear vu))
 clear c0 c1 vh xo ux
 go_wp2_with fail
 go_loopw [3] (λk wr=>∃j:bx,j<=m.fs.length/\k= Z U (j:bp)/\(∀f∈m.fs.take j,codeF m f=0)/\bh D.heap.size D wr) (λk _=>m.fs.length-(intOf k).toNat)
 case atStart=>exact⟨0,cN _,rfl,by simp,xp.out⟩
 case round=>
  rename World=>J;obtain⟨j,hj,rfl,hz,hb⟩:=hrel;obtain⟨hr,c0,c1,ue,xr⟩:=HK.out J hb;have HZ:=zH hz;have HB:=zH hb;have As:=zH xr;have AW:=zH hr
  by_cases xt:j<m.fs.length
  ·obtain⟨f,hs⟩:∃y,m.fs[j]?=tB y:=⟨_,am xt⟩
   have vc:=cf hs;obtain⟨g1,At,hA,Cl,q1⟩:=ue.mo.frow (by intro e;rw[e] at xt;simp at xt);have A0:cm (∀k u,f.cells.toList[k]?=tB u->J.cell? ((⟨g1,At+j*8,tD⟩:Addr).add k)=tB u):=λk u hu=>by rw[dc];exact q1 j f hs k u hu
   have hst:∀(c:da cd),c.size=8->(dr ⟨J.heap.size,0,tD⟩ f.cells.toList 0).run ac (J.alloc (ua c 38))= .ok () (J.alloc (ua f.cells 38)):=λc hc=>
    ct (P:=ac) J 38 c f.cells (by show _=tB 8;kernel_rfl) hc (fH f)
   obtain⟨P,hP⟩:=zE J.heap.size;obtain⟨G,vd⟩:=zE (J.alloc (ua f.cells 38));have A2:G.heap.size=P+1:=by rw[<-vd];simp[hP]
   have Ax:G.heap[P]?=tB (ua f.cells 38 (0,0)):=by rw[<-vd,<-hP];exact alloc_at _ _
   have uv:bh D.heap.size D G:=by rw[<-vd];exact hb.alloc hb.size _
   have xF:=ue.mo.fin f vc;have Cp:=ue.vl f vc;have ur:cm (∀W,bh G.heap.size G W->bh D.heap.size D W/\W.heap[P]?=tB (ua f.cells 38 (0,0))/\W.cell? ⟨P,1,tD⟩=tB (Z U f.c.par)/\W.cell? ⟨P,2,tD⟩=tB (tP f.c.varsA f.vs.length f.c.varsC)/\W.cell? ⟨P,7,tD⟩=tB (tP f.c.insA f.c.ins.length f.c.insC)):=λW hW=>by
    have q:=(hW.block P (by omega)).trans Ax;refine⟨uv.trans (hW.mono uv.size),q,by rw[cc _ _ _ _ _ _ q];rfl, ?_,by rw[cc _ _ _ _ _ _ q];rfl⟩;rw[cc _ _ _ _ _ _ q,<-xF.nvars];rfl
   have CA:(j:bp)<(m.fs.length:bp):=by omega
   have HS:=zH hs;have CC:=zH vc;have A4:cm (∀W,bh G.heap.size G W->oJ W m f/\∀i∈f.c.ins,i.args_in W):=λW hW=>by
    obtain⟨_,_,_,h4,_⟩:=HK.out W (ur.out W hW).1;have:=h4.mo.fin f vc;exact⟨Bt h4.mo this,λi hi=>this.code.args i hi⟩
   have A5:cm (∀i∈f.c.ins,i.args.length<=40):=ue.al f vc;have A6:cm (∀v,isVar f.vs.length v=tE->m.known (az f.vs v)=tE):=λv hv=>AT.out _ (by
    obtain⟨h0,h1⟩:=eF.1 hv;obtain⟨k,rfl⟩:∃k:bx,v=(k:bp):=⟨v.toNat,by omega⟩
    obtain⟨x,hx⟩:∃x,f.vs[k]?=tB x:=⟨_,am (by omega)⟩
    have e:az f.vs (k:bp)=x.ty:=by unfold az;rw[cP,hx]
    rw[e];unfold bP;exact cT.2 (.inr (em.2 ⟨f,vc,pn _ (dy.2 ⟨x,cf hx,rfl⟩)⟩)))
   have AD:cm (f.c.ins≠[]->∃b o,f.c.insA=tB ⟨b,o,tD⟩/\∀W,bh G.heap.size G W->b<W.heap.size/\∀(k:bx)(i:Ins),f.c.ins[k]?=tB i->∀q u,i.cells.toList[q]?=tB u->W.cell? ⟨b,o+k*13+q,tD⟩=tB u):=λBk=>by
    obtain⟨b,o,hA,hb,hc⟩:=xF.code.row Bk;refine⟨b,o,hA,λW hW=> ?_⟩;have AE:bh J.heap.size J W:=by
     have h0:=iq vd;exact h0.trans (hW.mono h0.size)
    refine⟨by have:=AE.size;omega,λk i hi q u hu=> ?_⟩;rw[AE.cell (p:=⟨b,_,tD⟩) hb];exact hc k i hi q u hu
   obtain⟨z,vx⟩:=zE (codeF m f);have uc:cm (z=if 300<f.vs.length\/f.c.ins.length<1\/3000<f.c.ins.length then 2
    else if f.c.par<0\/(f.vs.length:bp)<f.c.par then 15
    else if aQ (aD m f) f.c.ins≠0 then aQ (aD m f) f.c.ins
    else bM (match f.c.ins.getLast? with
     |some i=>decide (16<=i.op)
     |none=>tG) 15):=vx.symm
   have ud:cm (z≠0->R=z):=λh0=>by
    have e:=kw (f:=codeF m) hz hs (by rw[vx];exact h0);rw[xf.out,e,vx,cR h0]
   have vi:cm (z=0->∀f∈m.fs.take (j+1),codeF m f=0):=λh0=>dE (p:=λf=>codeF m f=0) hz hs (by rw[vx];exact h0);rw[hP] at hst;rw[vd] at hst;rw[hA] at c1;have Bm:=zH vd;have HP:=zH hP;clear hz hb xr hs vc ue xF q1 vx hr hA uv Ax A2 vd
   go_upto_region 11 with(refine aG rfl 38 _ rfl ⟨g1,At+j*8,tD⟩ rfl f.cells _ A0.out cQ rfl (by kernel_rfl) ?_)
   clear c0 c1 hst Bm;have vy:cm (bh N w G):=(HK.out G (ur.out G (aq _ _)).1).2.2.2.2;obtain⟨_,_,p1,p2,p7⟩:=ur.out G (aq _ _)
   by_cases d1:300<f.vs.length
   ·have A:cm (R=2):=by
     have e:z=2:=by rw[uc.out,cR (.inl d1)]
     unfold cm;rw[ud.out (by rw[e];decide),e]
    clear uc ud vi;go_wp2;go_ret;rw[A.out];exact⟨rfl,vy.out⟩
   by_cases d2:f.c.ins.length<1
   ·have A:cm (R=2):=by
     have e:z=2:=by rw[uc.out,cR (.inr (.inl d2))]
     unfold cm;rw[ud.out (by rw[e];decide),e]
    clear uc ud vi;go_wp2;go_ret;rw[A.out];exact⟨rfl,vy.out⟩
   by_cases d3:3000<f.c.ins.length
   ·have A:cm (R=2):=by
     have e:z=2:=by rw[uc.out,cR (.inr (.inr d3))]
     unfold cm;rw[ud.out (by rw[e];decide),e]
    clear uc ud vi;go_wp2;go_ret;rw[A.out];exact⟨rfl,vy.out⟩
   by_cases d4:f.c.par<0
   ·have A:cm (R=15):=by
     have e:z=15:=by rw[uc.out,cE (by omega),cR (.inl d4)]
     unfold cm;rw[ud.out (by rw[e];decide),e]
    clear uc ud vi;go_wp2;go_ret;rw[A.out];exact⟨rfl,vy.out⟩
   by_cases d5:(f.vs.length:bp)<f.c.par
   ·have A:cm (R=15):=by
     have e:z=15:=by rw[uc.out,cE (by omega),cR (.inr d5)]
     unfold cm;rw[ud.out (by rw[e];decide),e]
    clear uc ud vi;go_wp2;go_ret;rw[A.out];exact⟨rfl,vy.out⟩
   have xT:cm (z=if aQ (aD m f) f.c.ins≠0 then aQ (aD m f) f.c.ins
    else bM (match f.c.ins.getLast? with
     |some i=>decide (16<=i.op)
     |none=>tG) 15):=by unfold cm;rw[uc.out,cE (by omega),cE (by omega)]
   clear uc
   go_wp2_with fail
   clear p1 p2 p7
   go_loopw [6] (λk wr=>∃q:bx,q<=f.c.ins.length/\k= Z U (q:bp)/\(∀i∈f.c.ins.take q,aD m f i=0)/\bh G.heap.size G wr) (λk _=>f.c.ins.length-(intOf k).toNat)
   case atStart=>exact⟨0,cN _,rfl,by simp,aq _ _⟩
   case round=>
    obtain⟨q,hq,rfl,we,vj⟩:=hrel;have ya:=zH we;have yb:=zH vj
    by_cases yd:q<f.c.ins.length
    ·obtain⟨i,hi⟩:∃y,f.c.ins[q]?=tB y:=⟨_,am yd⟩
     have ye:=cf hi;obtain⟨ib,io,wg,wi⟩:=AD.out (by intro e;rw[e] at yd;simp at yd);have CD:(q:bp)<(f.c.ins.length:bp):=by omega
     have HI:=zH hi;have vf:cm (∀p:BW wr,bh G.heap.size G p.w):=λp=>yb.out.trans (p.h.mono yb.out.size);have By:cm (∀(p:BW wr) k u,m.cells.toList[k]?=tB u->p.w.cell? ((⟨N,0,tD⟩:Addr).add k)=tB u):=λp=>dI (HK.out p.w (ur.out p.w (vf.out p)).1).1;have BE:cm (∀(p:BW wr) k u,f.cells.toList[k]?=tB u->p.w.cell? ((⟨P,0,tD⟩:Addr).add k)=tB u):=λp=>dI (ur.out p.w (vf.out p)).2.1;have BT:cm (∀(p:BW wr) k u,i.cells.toList[k]?=tB u->p.w.cell? ((⟨ib,io+q*13,tD⟩:Addr).add k)=tB u):=λp k u hu=>by
      rw[dc];exact(wi p.w (vf.out p)).2 q i hi k u hu
     have p7:∀p:BW wr,p.w.cell? ⟨P,7,tD⟩=tB (tP (tB ⟨ib,io,tD⟩) f.c.ins.length f.c.insC):=λp=>by rw[<-wg];exact(ur.out p.w (vf.out p)).2.2.2.2
     obtain⟨d,hd⟩:=zE (aD m f i);have yi:=zH hd;have BY:cm (∀p:BW wr,zP 49 #[tW m.cells,tW f.cells,tW i.cells] p.w (Z U d)):=λp=>by
      obtain⟨h1,h2⟩:=A4.out p.w (vf.out p);rw[<-hd];exact sK m f i p.w h1 (h2 i ye) (A5.out i ye) A6.out
     clear we vj hi ye wg wi hd
     go_wp2_with fail
     refine zQ ?_
     repeat (first
      |(go_big_quiet_want;(first
        |(refine jQ 25 _ rfl ⟨N,0,tD⟩ rfl m.cells _ By.out fk rfl (by kernel_rfl) ?_)
        |(refine jQ 38 _ rfl ⟨P,0,tD⟩ rfl f.cells _ BE.out cQ rfl (by kernel_rfl) ?_)
        |(refine jQ 42 _ rfl ⟨ib,io+q*13,tD⟩ rfl i.cells _ BT.out cJ rfl (by kernel_rfl) ?_));(simp only[dk,aw,bt,bw]);go_big_quiet_on)
      |(go_big_quiet_step (first|(go_at_call 49;exact aW (BY.out _)))))
     refine eh ?_;rintro _ ⟨p,rfl⟩;have yk:cm (bh N w p.w):=(HK.out p.w (ur.out p.w (vf.out p)).1).2.2.2.2;clear p7
     by_cases wj:d=0
     ·subst wj
      go_wp2;go_roundw
      case rel=>exact⟨q+1,by omega,by go_num,dE (p:=λi:Ins=>aD m f i=0) ya.out HI.out yi.out,vf.out p⟩
      case measure=>simp[intOf];omega
     ·have CH:(d==0)=tG:=by rw[dp];exact wj
      have A:cm (R=d):=by
       have e:=kw (f:=aD m f) ya.out HI.out (by rw[yi.out];exact wj);have e2:z=d:=by rw[xT.out,e,yi.out,cR wj]
       unfold cm;rw[ud.out (by rw[e2];exact wj),e2]
      go_wp2;go_ret;rw[A.out];exact⟨rfl,yk.out⟩
    ·have B4:q=f.c.ins.length:=by omega
     subst B4;rw[de] at we;obtain⟨i,hi⟩:∃i,f.c.ins[f.c.ins.length-1]?=tB i:=⟨_,am (by omega)⟩
     have AF:cm (z=bM (decide (16<=i.op)) 15):=by
      unfold cm;rw[xT.out,iH we,cE (by simp),List.getLast?_eq_getElem?,hi]
     obtain⟨ib,io,wg,wi⟩:=AD.out (by intro e;rw[e] at hi;simp at hi);obtain⟨L,hL⟩:∃L,f.c.ins.length=L+1:=⟨f.c.ins.length-1,by omega⟩
     rw[hL,Nat.add_sub_cancel] at hi;have i0:wr.cell? ⟨ib,io+L*13,tD⟩=tB (Z U i.op):=(wi wr vj).2 L i hi 0 _ rfl;have p7:wr.cell? ⟨P,7,tD⟩=tB (tP (tB ⟨ib,io,tD⟩) (L+1) f.c.insC):=by rw[<-wg,<-hL];exact(ur.out wr vj).2.2.2.2
     have CM:((L+1:bx):bp)-1=(L:bp):=by omega
     have yk:cm (bh N w wr):=(HK.out wr (ur.out wr vj).1).2.2.2.2;have CN:=zH hL;have CT:L<=3000:=by omega
     clear we vj hi wi xT ya wg;rw[hL]
     by_cases B5:i.op<16
     ·have A:cm (R=15):=by
       have e:z=15:=by rw[AF.out,cL (by omega)];rfl
       unfold cm;rw[ud.out (by rw[e];decide),e]
      go_wp2;go_ret;rw[A.out];exact⟨rfl,yk.out⟩
     ·have B6:cm (z=0):=by unfold cm;rw[AF.out,ef (by omega)];rfl
      have C3:decide (i.op<16)=tG:=cL B5;go_wp2;go_roundw
      case rel=>exact⟨j+1,by omega,by go_num,vi.out B6.out,(ur.out wr yb.out).1⟩
      case measure=>simp[intOf];omega
  ·have B8:j=m.fs.length:=by omega
   subst B8;rw[de] at hz;have wk:cm (R=bM (decide (0<=m.fnIx dG)&&(match m.fs[(m.fnIx dG).toNat]? with
    |some g=>decide (g.c.par=0)&& !g.c.rp
    |none=>tG)) 9):=by
    unfold cm;rw[xf.out,iH hz,cE (by simp)]
   obtain⟨kx,vm⟩:=zE (m.fnIx dG);rw[vm] at wk;have AG:cm (zP 50 #[tW m.cells,tM ⟨#[109,97,105,110]⟩] J (Z U kx)):=by
    rw[<-vm];exact nG m dG J ue.mo.nf ue.mo.frow
   have yp:cm (∀W b,zP 51 #[tU b,Z U 9] W (Z U (bM (!b) 9))):=λW b=>bi b 9 W;have yq:cm (∀W W',bh J.heap.size J W->bh W.heap.size W W'->bh N w W'):=λW W' h1 h2=>As.out.trans ((h1.trans (h2.mono h1.size)).mono (AS.out _ As.out));have B9:=zH ue.mo.frow;clear hz hb xr hr
   go_upto_region 25 with(first
    |(refine ci rfl 25 _ rfl N rfl 25 m.cells (0,0) _ AW.out fk rfl (by kernel_rfl) ?_)
    |(go_at_call 50;refine AG.out.mono ?_;rintro e w8 ⟨rfl,AH⟩;have xj:=zH AH;clear AH))
   clear c0 c1 AG;rcases nR (λf:Fn=>f.c.nm==dG) m.fs with e|⟨k,f,e,hf,_⟩
   ·have yr:kx= -1:=by rw[<-vm];exact e
    subst yr;have A:cm (R=9):=by unfold cm;rw[wk.out];rfl
    clear ue vm xf wk e B9
    go_wp2_with (go_at_call 51;refine(yp.out _ _).mono ?_;rintro e w9 ⟨rfl,va⟩;have wl:=zH va;clear va)
    go_ret;rw[A.out];exact⟨rfl,yq.out _ _ xj.out wl.out⟩
   ·have yr:kx=(k:bp):=by rw[<-vm];exact e
    subst yr;have AI:=(ap.1 hf).1;have C4:(k:bp)<(m.fs.length:bp):=by omega
    have A:cm (R=bM (decide (f.c.par=0)&& !f.c.rp) 9):=by
     unfold cm;rw[wk.out,cP,hf,ef (by omega)];rfl
    obtain⟨fb,yv,AK,yy,yW⟩:=ue.mo.frow (by intro e;rw[e] at AI;simp at AI);have AM:cm (∀W8,bh J.heap.size J W8->W8.cell? ⟨fb,yv+k*8+1,tD⟩=tB (Z U f.c.par)/\W8.cell? ⟨fb,yv+k*8+3,tD⟩=tB (tU f.c.rp)/\W8.cell? ⟨N,1,tD⟩=tB (tP (tB ⟨fb,yv,tD⟩) m.fs.length m.fC)):=by
     intro W8 h8;refine⟨?_, ?_, ?_⟩
     ·rw[h8.cell (p:=⟨fb,_,tD⟩) yy];exact yW k f hf 1 _ rfl
     ·rw[h8.cell (p:=⟨fb,_,tD⟩) yy];exact yW k f hf 3 _ rfl
     ·rw[<-AK];exact(HK.out W8 (HB.out.trans (h8.mono HB.out.size))).2.2.1
    have C5:max (k:bp) 0=(k:bp):=by omega
    have C6:k<=60:=by omega
    have C7:decide ((k:bp)<0)=tG:=cL (by omega);clear ue vm xf wk e yy yW hf AK;obtain⟨u1,u2,u3⟩:=AM.out w8 xj.out;clear AM
    by_cases hp:f.c.par=0
    ·rw[hp] at u1
     have zc:cm (R=bM (!f.c.rp) 9):=by unfold cm;rw[A.out,hp];rfl
     go_wp2_with (go_at_call 51;refine(yp.out _ _).mono ?_;rintro e w9 ⟨rfl,va⟩;have wl:=zH va;clear va)
     go_ret;rw[zc.out];exact⟨rfl,yq.out _ _ xj.out wl.out⟩
    ·have zc:cm (R=9):=by unfold cm;rw[A.out,cL hp];rfl
     have Dd:(f.c.par==0)=tG:=by rw[dp];exact hp
     go_wp2_with (go_at_call 51;refine(yp.out _ _).mono ?_;rintro e w9 ⟨rfl,va⟩;have wl:=zH va;clear va)
     go_ret;rw[zc.out];exact⟨rfl,yq.out _ _ xj.out wl.out⟩
end Go.Proofs.YtjomgckjhcfbgaaGreat
